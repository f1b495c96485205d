import Derived.Test.YtjmlnnanfkiakaaGreatDoorXQM
import Derived.Test.YtjmlnnanfkiakaaGreatDoorGt
import Derived.Test.YtjmlnnanfkiakaaGreatDoorStrS
import Derived.Test.YtjmlnnanfkiakaaGreatDoorStrK
import Derived.Test.YtjmlnnanfkiakaaGreatDoorXQW1
set_option maxHeartbeats 8000000
set_option linter.all false
set_option maxRecDepth 100000
namespace Go.Proofs.YtjmlnnanfkiakaaGreatDoor
open Go.Gk
theorem Lmo{kind:Int}{r:List Int}(h:Lfm kind=some r):Pure Tryz.prog 120 [I kind] (.d (Sl (eN .i64) r)):=by
 unfold Lfm at h
 refine Pure.enter (Fr.of 0 _) Tryz.func120 E (Fr.of_ok _) E E<|Kcg<|gA 18 E<|jC E h (fun h1=>?_) fun h2=>gA 6 E<|jC E h2 (fun h3=>?_) fun h4=>?_
 ·exact gA 2 E<|Kdj hΓ (enc:=(eN .i64)) [0,2,5,6,7,8] E E E E E E E E E E E E Z<|gO 6 E<|oSi h1▸gP E E
 ·exact gA 2 E<|Kdj hΓ (enc:=(eN .i64)) [0,2] E E E E E E E E E E E E Z<|gO 6 E<|oSi h3▸gP E E
 refine gA 6 E<|jC E h4 (fun h5=>?_) fun h6=>gA 6 E<|jC E h6 (fun h7=>?_) fun h8=>?_
 ·exact gA 2 E<|Kdj hΓ (enc:=(eN .i64)) [0,1,2,3,4] E E E E E E E E E E E E Z<|gO 6 E<|oSi h5▸gP E E
 ·exact gA 2 E<|Kdj hΓ (enc:=(eN .i64)) [0,1,3] E E E E E E E E E E E E Z<|gO 6 E<|oSi h7▸gP E E
 refine gA 6 E<|jC E h8 (fun h9=>?_) fun h10=>gA 6 E<|jC E h10 (fun h11=>?_) fun h12=>?_
 ·exact gA 2 E<|Kdj hΓ (enc:=(eN .i64)) [0,1,4] E E E E E E E E E E E E Z<|gO 6 E<|oSi h9▸gP E E
 ·exact gA 2 E<|Kdj hΓ (enc:=(eN .i64)) [0,1,5] E E E E E E E E E E E E Z<|gO 6 E<|oSi h11▸gP E E
 exact gA 5 E<|Kdj hΓ (enc:=(eN .i64)) [0,1] E E E E E E E E E E E E Z<|gO 4 E<|oSi h12▸gP E E
theorem Lmp{k:Nat}{s:Str}{empty:Bool}{r:Int}(h:Lfn k s empty=some r):Pure Tryz.prog 270 [S s,B empty] (I r):=by
 unfold Lfn at h
 refine Pure.enter (Fr.of 0 _) Tryz.func270 E (Fr.of_ok _) E E<|Kcg<|bK h fun y1 hy1 h2=>gA 9 E<|Kdp C (Lmi hy1) E Z E E E E E<|gO 2 E<|Kcn 7 [(15,B ((!y1)&&(!(empty&&((s:Str)==[])))))] [] ?_ ?_
 ·refine Kov E E (fun hb=>?_) (fun hb=>?_)
  ·refine gO 2 E<|Kcn 3 [(8,B true),(13,B (empty&&((s:Str)==[])))] [] ?_ ?_
   ·refine Kov E E (fun hb=>?_) (fun hb=>?_)
    ·exact gO 4 E<|⟨⟨E,Kbq E (Keh hb),tV⟩,[],E,.inl E⟩
    exact gO 4 E<|⟨⟨E,Kbq E (Kei hb),tV⟩,[],E,.inl E⟩
   exact gO 3 E<|⟨⟨Kbq E (Keh hb),tV⟩,[],E,.inl E⟩
  exact gO 8 E<|⟨⟨Kbq E (Kei hb),tV⟩,[],E,.inl E⟩
 refine gO 2 E<|jC E h2 (fun h3=>?_) fun h4=>gA 8 E<|oSi h4▸gP E E
 exact gA 7 E<|oSi h3▸gP E E
theorem Lmq{s:Str}{r:Bool}(h:Lfo s=some r):Pure Tryz.prog 151 [S s] (B r):=by
 unfold Lfo at h
 refine Pure.enter (Fr.of 0 _) Tryz.func151 E (Fr.of_ok _) E E<|Kcg<|gA 10 E<|Kcn 4 [(0,S s),(2,B false),(9,B ((!((s:Str)==[]))&&(decide (((s.length:Int):Int)≤20))))] [] ?_ ?_
 ·refine Kov E E (fun hb=>?_) (fun hb=>?_)
  ·exact gO 5 E<|⟨⟨E,E,Kbq E (Keh hb),tV⟩,[],E,.inl E⟩
  exact gO 5 E<|⟨⟨E,E,Kbq E (Kei hb),tV⟩,[],E,.inl E⟩
 refine gO 1 E<|bK h fun q1 hq1 h2=>Kcn 4 [(2,B false),(14,B q1)] [] ?_ ?_
 ·refine Kov E E (fun hb=>?_) (fun hb=>?_)
  ·have h3:=cT hq1 hb
   exact bK h3 fun y4 hy4 h5=>gO 1 E<|Kot E<|Kdp C (Lcu hy4) E Z E E E E E<|gO 3 E<|oSi h5▸⟨⟨E,E,tV⟩,[],E,.inl E⟩
  have h6:=cF hq1 hb
  exact gO 5 E<|oSi h6▸⟨⟨E,E,tV⟩,[],E,.inl E⟩
 exact gO 4 E<|oSi h2▸gP E E
theorem Lmr{k:Nat}{l:List Str}{r:Int}(h:Lfp k l=some r):Pure Tryz.prog 271 [.d (Sl eS l)] (I r):=by
 unfold Lfp at h
 refine Pure.enter (Fr.of 0 _) Tryz.func271 E (Fr.of_ok _) E E<|Kcg<|gA 13 E<|jC E h (fun h1=>?_) fun h2=>bK h2 fun y3 hy3 h4=>gA 5 E<|Kdp C (Lmj hy3) E Z E E E E E<|gO 4 E<|oSi h4▸gP E E
 exact gA 7 E<|oSi h1▸gP E E
theorem Lms{n:Int}{r:Int}(h:Lfq n=some r):Pure Tryz.prog 272 [I n] (I r):=by
 unfold Lfq at h
 refine Pure.enter (Fr.of 0 _) Tryz.func272 E (Fr.of_ok _) E E<|Kcg<|bK h fun y1 hy1 h2=>gA 9 E<|Kdp C (Lmk hy1) E Z E E E E E<|gO 2 E<|jC E h2 (fun h3=>?_) fun h4=>gA 8 E<|oSi h4▸gP E E
 exact gA 7 E<|oSi h3▸gP E E
theorem Lmt{k:Nat}{s:Ldh}{field:Int}{r:Int}(h:Lfr k s field=some r):Pure Tryz.prog 193 [.agg (fS s),I field] (I r):=by
 unfold Lfr at h
 refine Pure.enter (Fr.of 0 _) Tryz.func193 E (Fr.of_ok _) E E<|Kcg<|gA 2 E<|Kqc E E E E Z<|bK h fun q1 hq1 h2=>gO 17 E<|Kgp (q:=q1) (fun a3=>[]) (fun a3=>[.box 37 (fS s)]) ?_ ?_
 ·refine gA 7 E<|jC E hq1 (fun h4=>?_) fun h9=>gA 6 E<|jC E h9 (fun h10=>?_) fun h15=>?_
  ·refine bK h4 fun y5 hy5 h6=>gA 5 E<|Kdp C (Lmp hy5) E Z E E E E E<|gO 5 E<|bK h6 fun v7 hv7 h8=>?_
   cases h8
   cases h2
   exact gA 2 E<|oSi hv7▸gP E E
  ·refine bK h10 fun y11 hy11 h12=>gA 4 E<|Kdp C (Lmp hy11) E Z E E E E E<|gO 5 E<|bK h12 fun v13 hv13 h14=>?_
   cases h14
   cases h2
   exact gA 2 E<|oSi hv13▸gP E E
  refine gA 6 E<|jC E h15 (fun h16=>?_) fun h21=>gA 6 E<|jC E h21 (fun h22=>?_) fun h29=>?_
  ·refine bK h16 fun y17 hy17 h18=>gA 5 E<|Kdp C (Lmp hy17) E Z E E E E E<|gO 5 E<|bK h18 fun v19 hv19 h20=>?_
   cases h20
   cases h2
   exact gA 2 E<|oSi hv19▸gP E E
  ·refine bK h22 fun y23 hy23 h24=>gA 4 E<|Kdp C (Lmq hy23) E Z E E E E E<|gO 3 E<|jC E h24 (fun h25=>?_) fun h28=>gA 2 E<|oSi h28▸⟨_,E,⟨tV,[],E,.inl E⟩⟩
   refine gA 7 E<|bK h25 fun v26 hv26 h27=>?_
   cases h27
   cases h2
   exact gA 2 E<|oSi hv26▸gP E E
  refine gA 6 E<|jC E h29 (fun h30=>?_) fun h35=>gA 6 E<|jC E h35 (fun h36=>?_) fun h41=>?_
  ·refine bK h30 fun y31 hy31 h32=>gA 4 E<|Kdp C (Lmp hy31) E Z E E E E E<|gO 5 E<|bK h32 fun v33 hv33 h34=>?_
   cases h34
   cases h2
   exact gA 2 E<|oSi hv33▸gP E E
  ·refine bK h36 fun y37 hy37 h38=>gA 4 E<|Kdp C (Lmr hy37) E Z E E E E E<|gO 5 E<|bK h38 fun v39 hv39 h40=>?_
   cases h40
   cases h2
   exact gA 2 E<|oSi hv39▸gP E E
  refine gA 6 E<|jC E h41 (fun h42=>?_) fun h47=>gA 6 E<|jC E h47 (fun h48=>?_) fun h53=>?_
  ·refine bK h42 fun y43 hy43 h44=>gA 4 E<|Kdp C (Lms hy43) E Z E E E E E<|gO 5 E<|bK h44 fun v45 hv45 h46=>?_
   cases h46
   cases h2
   exact gA 2 E<|oSi hv45▸gP E E
  ·refine bK h48 fun y49 hy49 h50=>gA 4 E<|Kdp C (Lms hy49) E Z E E E E E<|gO 5 E<|bK h50 fun v51 hv51 h52=>?_
   cases h52
   cases h2
   exact gA 2 E<|oSi hv51▸gP E E
  exact gA 2 E<|oSi h53▸⟨_,E,⟨tV,[],E,.inl E⟩⟩
 intro a3 ha
 subst ha
 replace h2:=Kgg h2
 exact gA 7 E<|oSi h2▸gP E E
theorem Lmu{s:List Int}{v:Int}{r:Int}(h:Lfs s v=some r):Pure Tryz.prog 273 [.d (Sl (eN .i64) s),I v] (I r):=by
 unfold Lfs at h
 refine Pure.enter (Fr.of 0 _) Tryz.func273 E (Fr.of_ok _) E E<|Kcg<|gA 13 E<|bK h fun q4 hq4 h5=>Kcx 0 E fun hb7=>Kgm (R:=fun a6=>q4=.go a6) (fun a6=>[]) (fun a6=>[]) ?_ ?_
 ·refine gA 1 E<|Kcw s hq4 (fun i1 s2=>[(0,.d (Sl (eN .i64) s)),(1,I v),(7,I (s.length:Int)),(8,I (i1:Int))]) (fun s2=>[]) ⟨⟨E,E,E,E,tV⟩,[],E,.inl E⟩ (fun i1 x3 s2 y11 hx8 hlt hy9 hout10=>?_) (fun s2 hgo=>?_)
  ·refine gA 6 E<|Kci E (decide_eq_true (Int.ofNat_lt.2 hlt))<|gA 15 E<|eo_o E (Kcy hΓ (enc:=(eN .i64)) (Kcr hx8) E E E E E (fun _=>E))<|gO 4 E<|jC E hy9 (fun h12=>?_) fun h15=>gA 7 E ?_
   ·refine gA 9 E<|bK h12 fun v13 hv13 h14=>?_
    cases h14
    obtain rfl:=hout10 _ rfl
    cases h5
    exact gA 4 E<|oSi hv13▸gP E E
   cases h15
   exact⟨_,E,⟨⟨E,E,E,Kbp E (Kbo (nLl hlt hb7)),tV⟩,[],E,.inl E⟩⟩
  subst hgo
  exact gA 6 E<|Kcj E (decide_eq_false (Int.lt_irrefl _))<|gA 4 E<|⟨_,E,⟨tV,[],E,.inl E⟩⟩
 intro a6 ha
 subst ha
 replace h5:=Kgh h5
 exact gA 7 E<|oSi h5▸gP E E
theorem Lmv{s:List Int}{v:Int}{r:Bool}(h:Lft s v=some r):Pure Tryz.prog 194 [.d (Sl (eN .i64) s),I v] (B r):=by
 unfold Lft at h
 exact Pure.enter (Fr.of 0 _) Tryz.func194 E (Fr.of_ok _) E E<|Kcg<|bK h fun y1 hy1 h2=>gA 9 E<|Kdp C (Lmu hy1) E Z E E E E E<|gO 5 E<|oSi h2▸gP E E
theorem Lmw{s:Ldh}{field:Int}{r:Bool}(h:Lfu s field=some r):Pure Tryz.prog 195 [.agg (fS s),I field] (B r):=by
 unfold Lfu at h
 refine Pure.enter (Fr.of 0 _) Tryz.func195 E (Fr.of_ok _) E E<|Kcg<|gA 2 E<|Kqc E E E E Z<|gO 16 E<|jC E h (fun h1=>?_) fun h2=>gA 6 E<|jC E h2 (fun h3=>?_) fun h4=>?_
 ·exact gA 11 E<|oSi h1▸gP E E
 ·exact gA 11 E<|oSi h3▸gP E E
 refine gA 6 E<|jC E h4 (fun h5=>?_) fun h6=>gA 6 E<|jC E h6 (fun h7=>?_) fun h8=>?_
 ·exact gA 11 E<|oSi h5▸gP E E
 ·exact gA 11 E<|oSi h7▸gP E E
 refine gA 6 E<|jC E h8 (fun h9=>?_) fun h10=>gA 6 E<|jC E h10 (fun h11=>?_) fun h12=>?_
 ·exact gA 11 E<|oSi h9▸gP E E
 ·exact gA 12 E<|oSi h11▸gP E E
 refine gA 6 E<|jC E h12 (fun h13=>?_) fun h14=>gA 6 E<|jC E h14 (fun h15=>?_) fun h16=>?_
 ·exact gA 11 E<|oSi h13▸gP E E
 ·exact gA 11 E<|oSi h15▸gP E E
 exact gA 12 E<|oSi h16▸gP E E
theorem Lmx{k:Nat}{s:Ldh}{r:Int}(h:Lfv k s=some r):Pure Tryz.prog 88 [.agg (fS s)] (I r):=by
 unfold Lfv at h
 refine Pure.enter (Fr.of 0 _) Tryz.func88 E (Fr.of_ok _) E E<|Kcg<|gA 2 E<|Kqc E E E E Z<|bK h fun y1 hy1 h2=>gO 9 E<|Kdp C (Lmm hy1) E Z E E E E E<|gO 4 E<|jC E h2 (fun h3=>?_) fun h4=>bK h4 fun y5 hy5 h6=>gA 4 E<|Kdp C (Lmi hy5) E Z E E E E E<|gO 4 E<|jC E h6 (fun h7=>?_) fun h8=>?_
 ·exact gA 8 E<|oSi h3▸gP E E
 ·exact gA 8 E<|oSi h7▸gP E E
 refine bK h8 fun y9 hy9 h10=>gA 4 E<|Kdp C (Lmk hy9) E Z E E E E E<|gO 3 E<|jC E h10 (fun h11=>?_) fun h12=>bK h12 fun y13 hy13 h14=>gA 4 E<|Kdp C (Lmk hy13) E Z E E E E E<|gO 3 E<|jC E h14 (fun h15=>?_) fun h16=>?_
 ·exact gA 8 E<|oSi h11▸gP E E
 ·exact gA 8 E<|oSi h15▸gP E E
 refine bK h16 fun y17 hy17 h18=>gA 7 E<|Kdp C (Lmo hy17) E Z E E E E E<|gO 11 E<|bK h18 fun q22 hq22 h23=>Kcx 3 E fun hb25=>Kgm (R:=fun a24=>q22=.go a24) (fun a24=>[(1,.ptr 0 0),(3,.d (Sl (eN .i64) y17))]) (fun a24=>[.box 37 (fS s)]) ?_ ?_
 ·refine gA 1 E<|Kcw y17 hq22 (fun i19 s20=>[(1,.ptr 0 0),(3,.d (Sl (eN .i64) y17)),(29,.d (Sl (eN .i64) y17)),(30,I (y17.length:Int)),(31,I (i19:Int))]) (fun s20=>[.box 37 (fS s)]) ⟨⟨E,E,E,E,E,tV⟩,[],E,.inl E⟩ (fun i19 x21 s20 y29 hx26 hlt hy27 hout28=>?_) (fun s20 hgo=>?_)
  ·refine gA 6 E<|Kci E (decide_eq_true (Int.ofNat_lt.2 hlt))<|gA 6 E<|eo_o E (Kcy hΓ (enc:=(eN .i64)) (Kcr hx26) E E E E E (fun _=>E))<|bK hy27 fun y30 hy30 h31=>gO 8 E<|Kdp C (Lmt hy30) E Z E E E E E<|gO 9 E<|jC E h31 (fun h32=>?_) fun h35=>gA 7 E ?_
   ·refine gA 9 E<|bK h32 fun v33 hv33 h34=>?_
    cases h34
    obtain rfl:=hout28 _ rfl
    cases h23
    exact gA 4 E<|oSi hv33▸gP E E
   cases h35
   exact⟨_,E,⟨⟨E,E,E,E,Kbp E (Kbo (nLl hlt hb25)),tV⟩,[],E,.inl E⟩⟩
  subst hgo
  exact gA 6 E<|Kcj E (decide_eq_false (Int.lt_irrefl _))<|gA 4 E<|⟨_,E,⟨⟨E,E,tV⟩,[],E,.inl E⟩⟩
 intro a24 ha
 subst ha
 replace h23:=Kgh h23
 refine gA 7 E<|bK h23 fun q39 hq39 h40=>Kgm (R:=fun a41=>q39=.inl a41) (fun a41=>[]) (fun a41=>[.box 37 (fS s)]) ?_ ?_
 ·refine gA 1 E<|Kcu hq39 (fun s37=>[(1,.ptr 0 0),(3,.d (Sl (eN .i64) y17)),(42,I s37)]) (fun s37=>[.box 37 (fS s)]) ⟨⟨E,E,E,tV⟩,[],E,.inl E⟩ (fun s37 y45 hy43 hout44=>?_)
  refine gA 6 E<|jC E hy43 (fun h46=>?_) fun h59=>gA 4 E ?_
  ·refine bK h46 fun y47 hy47 h48=>gA 14 E<|Kdp C (Lmv hy47) E Z E E E E E<|gO 2 E<|bK h48 fun q49 hq49 h50=>Kcn 5 [(1,.ptr 0 0),(3,.d (Sl (eN .i64) y17)),(42,I s37),(54,B q49)] [.box 37 (fS s)] ?_ ?_
   ·refine Kov E E (fun hb=>?_) (fun hb=>?_)
    ·have h51:=cT hq49 hb
     exact bK h51 fun y52 hy52 h53=>gO 2 E<|Kot E<|Kdp C (Lmw hy52) E Z E E E E E<|gO 3 E<|oSi h53▸⟨⟨E,E,E,E,tV⟩,[],E,.inl E⟩
    have h54:=cF hq49 hb
    exact gO 6 E<|oSi h54▸⟨⟨E,E,E,E,tV⟩,[],E,.inl E⟩
   refine gO 2 E<|jC E h50 (fun h55=>?_) fun h58=>gA 7 E<|oSi h58▸⟨_,E,⟨⟨E,E,E,tV⟩,[],E,.inl E⟩⟩
   refine gA 8 E<|bK h55 fun v56 hv56 h57=>?_
   cases h57
   obtain rfl:=hout44 _ rfl
   cases h40
   exact gA 4 E<|oSi hv56▸gP E E
  cases h59
  obtain rfl:=hout44 _ rfl
  exact⟨_,E,⟨tV,[],E,.inl E⟩⟩
 intro a41 ha
 subst ha
 replace h40:=Kgg h40
 exact gA 7 E<|oSi h40▸gP E E
theorem Lmy{a:Ldh}{b:Ldh}{r:Int}(h:Lfw a b=some r):Pure Tryz.prog 89 [.agg (fS a),.agg (fS b)] (I r):=by
 unfold Lfw at h
 exact Pure.enter (Fr.of 0 _) Tryz.func89 E (Fr.of_ok _) E E<|Kcg<|gA 2 E<|Kqc E E E E Z<|Kqc E E E E Z<|gO 4 E<|Kck hmix (by kernel_rfl)<|bK h fun y1 hy1 h2=>gA 4 E<|Kdq C (Llg hy1) E E E E E E<|bK h2 fun y3 hy3 h4=>Kcf hΓ 4 E<|Kdq C (Lcv hy3) E E E E E E<|bK h4 fun y5 hy5 h6=>Kcf hΓ 4 E<|Kdq C (Llg hy5) E E E E E E<|Kdk hΓ (enc:=(eN .i64)) [y1,y3,y5] E E E E E E E E E E E E<|bK h6 fun y7 hy7 h8=>Kdq C (Llh hy7) E E E E E E<|Kcf hΓ 4 E<|oSi h8▸gP E E
theorem Lmz{s:Ldh}{r:Ldj}(h:Lfx s=some r):Pure Tryz.prog 92 [.agg (fS s)] (.agg [S r.server,I r.no]):=by
 unfold Lfx at h
 exact Pure.enter (Fr.of 0 _) Tryz.func92 E (Fr.of_ok _) E E<|Kcg<|gA 2 E<|Kqc E E E E Z<|Kqb hΓ E E E Z<|gO 8 E<|Kam hΓ (gs:=[S s.Server,I s.No]) E E E E E E E<|Kqg hΓ E E E E E E E E Z<|Kdx [.box 37 (fS s),.box 150 [S s.Server,I s.No]] E<|gO 3 E<|oSi h▸gP E E
theorem Lna{k:Nat}{l:List Ldh}{r:Int}(h:Lfy k l=some r):Pure Tryz.prog 33 [.d (Sl Lkk l)] (I r):=by
 unfold Lfy at h
 refine Pure.enter (Fr.of 0 _) Tryz.func33 E (Fr.of_ok _) E E<|Kcg<|gA 13 E<|jC E h (fun h1=>?_) fun h2=>gA 4 E<|eo_s Z (nblt.1 E) (Khs false)<|Kdx [mOb (kD Lkm) false eB ([]:List (Ldj×Bool))] E<|gO 11 E<|bK h2 fun q6 hq6 h7=>Kcx 0 E fun hb9=>Kgm (R:=fun a8=>q6=.go a8) (fun a8=>[]) (fun a8=>[mOb (kD Lkm) false eB a8]) ?_ ?_
 ·exact gA 7 E<|oSi h1▸gP E E
 ·refine gA 1 E<|Kcw l hq6 (fun i3 s4=>[(0,.d (Sl Lkk l)),(3,.map 0),(11,.d (Sl Lkk l)),(12,I (l.length:Int)),(13,I (i3:Int))]) (fun s4=>[mOb (kD Lkm) false eB s4]) ⟨⟨E,E,E,E,E,tV⟩,[],E,.inl E⟩ (fun i3 x5 s4 y13 hx10 hlt hy11 hout12=>?_) (fun s4 hgo=>?_)
  ·refine gA 6 E<|Kci E (decide_eq_true (Int.ofNat_lt.2 hlt))<|gA 7 E<|eo_o E (Kcy hΓ (enc:=Lkk) (Kcr hx10) E E E E E (fun _=>E))<|gO 1 E<|Kqb hΓ E E E Z<|gO 1 E<|Kqg hΓ E E E E E E E E Z<|Kdx [mOb (kD Lkm) false eB s4,.box 37 (fS x5)] E<|bK hy11 fun y14 hy14 h15=>gO 6 E<|Kdp C (Lmx hy14) E Z E E E E E<|gO 9 E<|jC E h15 (fun h16=>?_) fun h19=>bK h19 fun q20 hq20 h21=>gA 4 E<|Kgn [(0,.d (Sl Lkk l)),(3,.map 0),(5,.ptr 1 0),(11,.d (Sl Lkk l)),(12,I (l.length:Int)),(13,I (i3:Int)),(34,B q20)] [mOb (kD Lkm) false eB s4,.box 37 (fS x5)] ?_ ?_
   ·refine gA 10 E<|bK h16 fun v17 hv17 h18=>?_
    cases h18
    obtain rfl:=hout12 _ rfl
    cases h7
    exact gA 4 E<|oSi hv17▸gP E E
   ·refine Kck hmix (by kernel_rfl)<|gA 3 E<|Kaw E E (fun hb=>?_) (fun hb=>?_)
    ·have h22:=cT hq20 hb
     exact bK h22 fun x23 hx23 h24=>Kcf hΓ 3 E<|Kbr E E (Kcy hΓ (enc:=Lkk) hx23 E E E E E (fun _=>E))<|bK h24 fun y25 hy25 h26=>Kcf hΓ 2 E<|Kdr C (Lmy hy25) E E E E E E E<|Kcf hΓ 3 E<|oSi h26▸⟨⟨E,E,E,E,E,E,E,tV⟩,[],E,.inl E⟩
    have h27:=cF hq20 hb
    exact Kcf hΓ 10 E<|oSi h27▸⟨⟨E,E,E,E,E,E,E,tV⟩,[],E,.inl E⟩
   refine gA 1 E<|jC E h21 (fun h28=>?_) fun h31=>bK h31 fun y32 hy32 h33=>gA 7 E<|Kdp C (Lmz hy32) E Z E E E E E<|eo_o E (Klc hΓ (kenc:=Lkm) (agg:=false) (enc:=eB) s4 y32 (false:Bool) E E E Lmn (fun _=>E) E E E E E E E)<|gO 2 E<|jC E h33 (fun h34=>?_) fun h37=>?_
   ·refine gA 9 E<|bK h28 fun v29 hv29 h30=>?_
    cases h30
    obtain rfl:=hout12 _ rfl
    cases h7
    exact gA 4 E<|oSi hv29▸gP E E
   ·refine gA 9 E<|bK h34 fun v35 hv35 h36=>?_
    cases h36
    obtain rfl:=hout12 _ rfl
    cases h7
    exact gA 4 E<|oSi hv35▸gP E E
   refine bK h37 fun y38 hy38 h39=>gA 5 E<|Kdp C (Lmz hy38) E Z E E E E E<|eo_u Z (Kld hΓ (kenc:=Lkm) (agg:=false) (enc:=eB) (id:=0) s4 y38 true E E Lmn (fun _=>E) E E E E E)<|Kdx [mOb (kD Lkm) false eB (mSet s4 y38 true),.box 37 (fS x5)] E<|gO 7 E ?_
   cases h39
   exact⟨_,E,⟨⟨E,E,E,E,Kbp E (Kbo (nLl hlt hb9)),tV⟩,[_],E,.inr ⟨HB.mk E,FB.mk E,Z⟩⟩⟩
  subst hgo
  exact gA 6 E<|Kcj E (decide_eq_false (Int.lt_irrefl _))<|gA 4 E<|⟨_,E,⟨tV,[],E,.inl E⟩⟩
 intro a8 ha
 subst ha
 replace h7:=Kgh h7
 exact gA 7 E<|oSi h7▸gP E E
theorem Lnb{k:Nat}{d:Ldg}{l:List Ldh}{r:Int}(h:Lfz k d l=some r):Pure Tryz.prog 85 [.agg (fD d),.d (Sl Lkk l)] (I r):=by
 unfold Lfz at h
 refine Pure.enter (Fr.of 0 _) Tryz.func85 E (Fr.of_ok _) E E<|Kcg<|gA 2 E<|Kqc E E E E Z<|bK h fun y1 hy1 h2=>gO 7 E<|Kdp C (Lml hy1) E Z E E E E E<|gO 9 E<|jC E h2 (fun h3=>?_) fun h4=>bK h4 fun y5 hy5 h6=>gA 5 E<|Kdp C (Lna hy5) E Z E E E E E<|gO 4 E<|oSi h6▸gP E E
 exact gA 8 E<|oSi h3▸gP E E
theorem Lnc{d:Ldg}{r:Ldn}(h:Lga d=some r):EC Tryz.prog 86 [.agg (fD d)] [] fun g hp'=>g=.ptr 4 0∧hp'=(oN r 0 1 2 3 []):=by
 unfold Lga at h
 refine Kix (Fr.of 0 _) Tryz.func86 E (Fr.of_ok _) Z fun _=>Kcg<|gA 2 E<|Kqc E E E E Z<|gO 6 E<|eo_s Z (nblt.1 E) (Khs false)<|Kdx [.box 29 (fD d),mObB ([]:List (Str×Bool))] E<|eo_s Z (nblt.1 E) (Khs false)<|Kdx [.box 29 (fD d),mObB ([]:List (Str×Bool)),mObH ([]:List (Str×Nat))] E<|eo_s Z (nblt.1 E) (Khs true)<|Kdx [.box 29 (fD d),mObB ([]:List (Str×Bool)),mObH ([]:List (Str×Nat)),mObM ([]:List (Str×Ldl))] E<|eo_s Z (nblt.1 E) (Khs false)<|Kdx [.box 29 (fD d),mObB ([]:List (Str×Bool)),mObH ([]:List (Str×Nat)),mObM ([]:List (Str×Ldl)),mObT ([]:List (Str×(Tl Ldm)))] E<|Kam hΓ (gs:=[.d (Sl eS d.Users),.d (Sl Lki d.Owners),I d.Life,B d.Approve,.map 1,.map 2,.map 3,.map 4]) E E E E E E E<|Kqc E E E E Z<|gO 12 E<|bK h fun q4 hq4 h5=>Kcx 14 E fun hb7=>Kgn [(3,.ptr 5 0)] [.box 29 (fD d),mObB q4,mObH ([]:List (Str×Nat)),mObM ([]:List (Str×Ldl)),mObT ([]:List (Str×(Tl Ldm))),.box 206 [.d (Sl eS d.Users),.d (Sl Lki d.Owners),I d.Life,B d.Approve,.map 1,.map 2,.map 3,.map 4]] ?_ ?_
 ·refine gA 1 E<|Kee d.Users hq4 (fun i1 s2=>[(3,.ptr 5 0),(14,.d (Sl eS d.Users)),(15,I (d.Users.length:Int)),(16,I (i1:Int))]) (fun s2=>[.box 29 (fD d),mObB s2,mObH ([]:List (Str×Nat)),mObM ([]:List (Str×Ldl)),mObT ([]:List (Str×(Tl Ldm))),.box 206 [.d (Sl eS d.Users),.d (Sl Lki d.Owners),I d.Life,B d.Approve,.map 1,.map 2,.map 3,.map 4]]) ⟨⟨E,E,E,E,tV⟩,[],E,.inl E⟩ (fun i1 x3 s2 y11 hx8 hlt hy9=>?_) (?_)
  ·refine gA 6 E<|Kci E (decide_eq_true (Int.ofNat_lt.2 hlt))<|gA 6 E<|eo_o E (Kcy hΓ (enc:=eS) (Kcr hx8) E E E E E (fun _=>E))<|gO 10 E<|eo_u Z (Kia hΓ (kv:=kS) (agg:=false) (enc:=eB) (id:=1) s2 x3 true E E E Khm E E E E E)<|Kdx [.box 29 (fD d),mObB (mSet s2 x3 true),mObH ([]:List (Str×Nat)),mObM ([]:List (Str×Ldl)),mObT ([]:List (Str×(Tl Ldm))),.box 206 [.d (Sl eS d.Users),.d (Sl Lki d.Owners),I d.Life,B d.Approve,.map 1,.map 2,.map 3,.map 4]] E<|gO 7 E ?_
   cases hy9
   exact⟨⟨E,E,E,Kbp E (Kbo (nLl hlt hb7)),tV⟩,[],E,.inl E⟩
  exact gA 6 E<|Kcj E (decide_eq_false (Int.lt_irrefl _))<|gA 4 E<|⟨⟨E,tV⟩,[],E,.inl E⟩
 exact gA 8 E<|Kis 0 [.dead,mObB q4,mObH ([]:List (Str×Nat)),mObM ([]:List (Str×Ldl)),mObT ([]:List (Str×(Tl Ldm))),.box 206 [.d (Sl eS d.Users),.d (Sl Lki d.Owners),I d.Life,B d.Approve,.map 1,.map 2,.map 3,.map 4]] E Z<|Kgl 1 0 [mObB q4,.dead,mObH ([]:List (Str×Nat)),mObM ([]:List (Str×Ldl)),mObT ([]:List (Str×(Tl Ldm))),.box 206 [.d (Sl eS d.Users),.d (Sl Lki d.Owners),I d.Life,B d.Approve,.map 0,.map 2,.map 3,.map 4]] E E E E E E<|Kgl 2 1 [mObB q4,mObH ([]:List (Str×Nat)),.dead,mObM ([]:List (Str×Ldl)),mObT ([]:List (Str×(Tl Ldm))),.box 206 [.d (Sl eS d.Users),.d (Sl Lki d.Owners),I d.Life,B d.Approve,.map 0,.map 1,.map 3,.map 4]] E E E E E E<|Kgl 3 2 [mObB q4,mObH ([]:List (Str×Nat)),mObM ([]:List (Str×Ldl)),.dead,mObT ([]:List (Str×(Tl Ldm))),.box 206 [.d (Sl eS d.Users),.d (Sl Lki d.Owners),I d.Life,B d.Approve,.map 0,.map 1,.map 2,.map 4]] E E E E E E<|Kgl 4 3 [mObB q4,mObH ([]:List (Str×Nat)),mObM ([]:List (Str×Ldl)),mObT ([]:List (Str×(Tl Ldm))),.dead,.box 206 [.d (Sl eS d.Users),.d (Sl Lki d.Owners),I d.Life,B d.Approve,.map 0,.map 1,.map 2,.map 3]] E E E E E E<|Kgl 5 4 [mObB q4,mObH ([]:List (Str×Nat)),mObM ([]:List (Str×Ldl)),mObT ([]:List (Str×(Tl Ldm))),.box 206 [.d (Sl eS d.Users),.d (Sl Lki d.Owners),I d.Life,B d.Approve,.map 0,.map 1,.map 2,.map 3],.dead] E E E E E E<|Kgj<|oSi h5▸Kec hΓ [_] (.inr E) E E E E (.inr ⟨HB.mk E,E⟩)
theorem Lnd{p:Nat}{v_at:Int}{al:BagT}{r:Int}(h:Lgb p v_at al=some r):EC Tryz.prog 264 [.d (.hd (some 0) p),I v_at] [bg al] fun g hp'=>g=I r∧hp'=[bg al]:=by
 unfold Lgb at h
 refine Kon (Fr.of 0 _) Tryz.func264 E (Fr.of_ok _) Z fun _=>Kcg<|gA 10 E<|eo_o E ((Kkt hΓ E E E E).1)<|gO 3 E<|jC E h (fun h1=>?_) fun h2=>gK h2 fun hg4 h3=>gA 3 E<|eo_o E (Kmc hg4 E)<|eo_o E (Kmd hΓ hg4 E E E E E E)<|bK h3 fun m5 hm5 h6=>eo_o E (Kme hΓ (enc:=Lkr) (bg:=0) m5 E E (ArU.l _ (Kki (fun _ _=>E) hm5 m5)) E (g:=B m5.revoked) E E)<|gO 1 E<|bK h6 fun q7 hq7 h8=>Kcn 8 [(0,.d (.hd (some 0) p)),(21,B q7)] [bg al] ?_ ?_
 ·exact gA 8 E<|oSi h1▸Kec hΓ [] (.inr E) E E E E (.inl E)
 ·refine Kov E E (fun hb=>?_) (fun hb=>?_)
  ·have h9:=cT hq7 hb
   exact gO 9 E<|oSi h9▸⟨⟨E,E,tV⟩,[],E,.inl E⟩
  have h10:=cF hq7 hb
  exact gK h10 fun hg12 h11=>gO 2 E<|Kot E<|eo_o E (Kmc hg12 E)<|Kot E<|eo_o E (Kmd hΓ hg12 E E E E E E)<|Kot E<|eo_o E (Kmd hΓ hg12 E E E E E E)<|bK h11 fun m13 hm13 h14=>Kot E<|eo_o E (Kme hΓ (enc:=Lkr) (bg:=0) m13 E E (ArU.l _ (Kki (fun _ _=>E) hm13 m13)) E (g:=I m13.Join.Until) E E)<|gO 3 E<|oSi h14▸⟨⟨E,E,tV⟩,[],E,.inl E⟩
 refine gO 3 E<|jC E h8 (fun h15=>?_) fun h16=>gA 1 E<|Kck hmix (by kernel_rfl)<|gK h16 fun hg18 h17=>gA 1 E<|gl_o E (Kmc hg18 E)<|gl_o E (Kmd hΓ hg18 E E E E E E)<|bK h17 fun m19 hm19 h20=>gl_o E (Kme hΓ (enc:=Lkr) (bg:=0) m19 E E (ArU.l _ (Kki (fun _ _=>E) hm19 m19)) E (g:=I m19.used) E E)<|gK h20 fun hg22 h21=>Kcf hΓ 1 E<|gl_o E (Kmc hg22 E)<|gl_o E (Kmd hΓ hg22 E E E E E E)<|gl_o E (Kmd hΓ hg22 E E E E E E)<|bK h21 fun m23 hm23 h24=>gl_o E (Kme hΓ (enc:=Lkr) (bg:=0) m23 E E (ArU.l _ (Kki (fun _ _=>E) hm23 m23)) E (g:=I m23.Join.Left) E E)<|Kcf hΓ 4 E<|jC E h24 (fun h25=>?_) fun h26=>?_
 ·exact gA 8 E<|oSi h15▸Kec hΓ [] (.inr E) E E E E (.inl E)
 ·exact gA 8 E<|oSi h25▸Kec hΓ [] (.inr E) E E E E (.inl E)
 exact gA 9 E<|oSi h26▸Kec hΓ [] (.inr E) E E E E (.inl E)
theorem Lne{n:Ldn}{v_public:Str}{r:Bool}(h:Lgc n v_public=some r):EC Tryz.prog 265 [.ptr 4 0,S v_public] (oN n 0 1 2 3 []) fun g hp'=>g=B r∧hp'=(oN n 0 1 2 3 []):=by
 unfold Lgc at h
 refine Kon (Fr.of 0 _) Tryz.func265 E (Fr.of_ok _) Z fun _=>Kcg<|gA 12 E<|Kil hΓ (kv:=kS) (agg:=true) (enc:=Lko) n.there E E E E E Z (fun mr1 bs2 cl3 hpm4 hbl5 hbn6=>?_)
 refine Kdx [mObB n.users,mObH n.passes,mObS kS true Lko n.there (rawM kS Lko mr1 bs2 cl3),mObT n.story,bN n 0 1 2 3,.iter 2 cl3 []] E<|gO 2 E<|bK h fun q12 hq12 h13=>gA 1 E<|Klg hq12 hpm4 hbl5 hbn6 (fun s7=>[(1,S v_public),(11,.ptr 5 0)]) (fun sn9 s7=>[mObB n.users,mObH n.passes,mObS kS true Lko n.there (rawM kS Lko mr1 bs2 cl3),mObT n.story,bN n 0 1 2 3,.iter 2 cl3 sn9]) ⟨⟨E,E,tV⟩,[],E,.inl E⟩ (fun sn9 s7 hdone14 hstep15=>?_)
 refine gA 2 E<|Kim (kv:=kS) (agg:=true) (enc:=Lko) n.there mr1 bs2 cl3 sn9 (oN n 0 1 2 3 [.dead]) E E E E E Z (fun hdsn9=>?_) (fun j10 x8 b11 hjsn9 hbsn9 hnsn9=>?_)
 ·have hqsn9:=hdone14 hdsn9
  subst hqsn9
  replace h13:=Kgh h13
  exact gO 16 E<|oSi h13▸Kec hΓ [_] (.inr E) E E E E (.inr ⟨HB.mk E,E⟩)
 obtain⟨s16,h17,houtsn9⟩:=hstep15 j10 x8 b11 hjsn9 hbsn9 hnsn9
 have hssn9:=h17
 refine gO 10 E<|eo_o E (Kio (kv:=kS) (agg:=true) (enc:=Lko) n.there mr1 bs2 cl3 sn9 hjsn9 hbsn9 E E E E (fun _=>E))<|gO 1 E<|Kqb hΓ E E E Z<|Kqg hΓ E E E E E E E E Z<|Kdx [mObB n.users,mObH n.passes,mObS kS true Lko n.there (rawM kS Lko mr1 bs2 cl3),mObT n.story,bN n 0 1 2 3,.iter 2 cl3 (sn9++[b11]),.box 77 (fM x8.2)] E<|gO 10 E<|jC E h17 (fun h18=>?_) fun h21=>gA 2 E ?_
 ·refine gA 5 E<|Kne (kv:=kS) (agg:=true) (enc:=Lko) (id:=2) n.there (oN n 0 1 2 3 [.iter 2 cl3 (sn9++[b11]),.box 77 (fM x8.2)]) E E Z<|gA 2 E<|bK h18 fun v19 hv19 h20=>?_
  cases h20
  obtain rfl:=houtsn9 _ rfl
  cases h13
  exact gA 3 E<|oSi hv19▸Kec hΓ [_,_] (.inr E) E E E E (.inr ⟨HB.mk E,E⟩)
 cases h21
 exact⟨j10,x8,b11,_,hjsn9,hbsn9,hnsn9,hssn9,⟨⟨E,E,tV⟩,[_],E,.inr ⟨HB.mk E,FB.mk E,Z⟩⟩⟩
theorem Lnf{s:List Str}{r:List Str}(h:Lgd s=some r):EC Tryz.prog 213 [.d (Sl eS s)] [] fun g hp'=>g=.sl 0 r.length∧hp'=[rO 9 1 eS r]:=by
 unfold Lgd at h
 refine Kix (Fr.of 0 _) Tryz.func213 E (Fr.of_ok _) Z fun _=>Kcg<|gA 2 E<|Kdm (t:=0) 9 1 E Z<|gO 6 E<|Kby hΓ E E E E E fun b hbn=>?_
 rcases b with _ | _
 ·exact gO 7 E<|Kdl hΓ (enc:=eS) ([]:List Str) E E E E E E E E E E E E Z<|bK h fun y1 hy1 h2=>gO 1 E<|Kdy hΓ (enc:=eS) hy1 E E E E E E E E E (fun _=>E) E E E E<|gO 3 E<|Kiv 0 [.dead,rO 9 1 eS y1] E Z<|Kfh 1 0 [rO 9 1 eS y1,.dead] E E E E E E<|gA 1 E<|Kgj<|oSi h2▸Kec hΓ [_] (.inr E) E E E E (.inr ⟨HB.mk E,E⟩)
 obtain rfl:=List.eq_nil_of_length_eq_zero (hbn rfl).1
 replace h:(some ([]:List Str):Option (List Str))=some r:=h
 exact gO 5 E<|Kdm (t:=0) 9 1 E Z<|gO 4 E<|Kis 0 [.dead,rO 9 1 eS ([]:List Str)] E Z<|Kgl 1 0 [rO 9 1 eS ([]:List Str),.dead] E E E E E E<|Kgj<|oSi h▸Kec hΓ [_] (.inr E) E E E E (.inr ⟨HB.mk E,E⟩)
theorem Lng{n:Ldn}{v_at:Int}{user:Str}{r:Int}(h:Lge n v_at user=some r):EC Tryz.prog 266 [.ptr 4 0,I v_at,S user] (oN n 0 1 2 3 []) fun g hp'=>g=I r∧hp'=(oN n 0 1 2 3 []):=by
 unfold Lge at h
 refine Kon (Fr.of 0 _) Tryz.func266 E (Fr.of_ok _) Z fun _=>Kcg<|gA 12 E<|jC E h (fun h1=>?_) fun h2=>gA 16 E<|oSi h2▸Kec hΓ [] (.inr E) E E E E (.inl E)
 exact gA 7 E<|oSi h1▸Kec hΓ [] (.inr E) E E E E (.inl E)
theorem Lnh{n:Ldn}{v_at:Int}{m:Ldl}{key:Bool}{al:BagT}{r:Ldn×BagT}(h:Lgf n v_at m key al=some r):EC Tryz.prog 267 [.ptr 4 0,I v_at,.agg (fM m),B key] (oN n 0 1 2 3 [bg al]) fun g hp'=>g=.tup []∧hp'=(oN r.1 0 1 2 3 [bg r.2]):=by
 unfold Lgf at h
 exact Kix (Fr.of 0 _) Tryz.func267 E (Fr.of_ok _) Z fun _=>Kcg<|gA 2 E<|Kqc E E E E Z<|gO 3 E<|Kfn [.dead,.dead,.dead,.dead,bN n 0 1 2 3,.dead,.box 77 (fM m)] [3,5,6] [7] [] hmix (by kernel_rfl) (by kernel_rfl) ⟨E,E,tV⟩ Z<|go_E hΓ 7 E<|Kfs [mObB n.users,mObH n.passes,mObM (mSet n.there m.Node m),mObT n.story,bN n 0 1 2 3,bg al,.box 77 (fM m)] E E (Kfu ⟨E,E,tV⟩) (Kfy (Kia hΓ (kv:=kS) (agg:=true) (enc:=Lko) (id:=2) n.there m.Node m E E E Khm E E E E E))<|Kfp<|gA 1 E<|Kfn [.dead,.dead,.dead,mObT n.story,bN n 0 1 2 3,.dead,.box 77 (fM m)] [3,5,9,11,12,14] [18,19] [19] hmix (by kernel_rfl) (by kernel_rfl) ⟨E,E,E,tV⟩ Z<|go_E hΓ 12 E<|ge_p E (fun hp hs=>Kjz hΓ (kv:=kS) (te:=233) (sz:=11) (enc:=Lkp) n.story m.Node E E E E Khm E (hs 3 _ E E) E E E) E<|go_E hΓ 3 E<|ge_q E (.inl E) (fun _ _=>Kfq (qt_p (Kge hΓ (gs:=[I v_at,S m.Node,S m.User,S m.Name,S m.Public,.d (Sl eS m.Tags),I m.Joined,I m.Expires,B m.Approved,B false,B key]) E E E E E E)))<|Kgb hΓ (enc:=Lkp) [(⟨v_at,m,false,key⟩:Ldm)] E E E E E E E E E E E E<|bK h fun y1 hy1 h2=>ge_h [mObB n.users,mObH n.passes,mObM (mSet n.there m.Node m),mObT n.story,bN n 0 1 2 3,.bag y1.2 (arX al.2.1 al.2.2.1 al.2.2.2.1 al.2.2.2.2.1 al.2.2.2.2.2) [],.box 77 (fM m)] E E E (Kfu ⟨E,E,E,tV⟩) (Kfx (Kjg hΓ (enc:=Lkp) (bg:=5) hy1 E E E E E E E E (fun _=>E) E E))<|Kfs [mObB n.users,mObH n.passes,mObM (mSet n.there m.Node m),mObT (mSet n.story m.Node y1.1),bN n 0 1 2 3,.bag y1.2 (arX al.2.1 al.2.2.1 al.2.2.2.1 al.2.2.2.2.1 al.2.2.2.2.2) [],.box 77 (fM m)] E E (Kft E) (Kfy (Kia hΓ (kv:=kS) (agg:=false) (enc:=(eT 233 11 Lkp)) (id:=3) n.story m.Node y1.1 E E E Khm E E E E E))<|Kfp<|Kgj<|oSi h2▸Kec hΓ [_] (.inl E) E E E E (.inr ⟨HB.mk E,E⟩)
theorem Lni{n:Ldn}{s:Ldh}{al:BagT}{r:Int×Ldn×BagT}(h:Lgg n s al=some r):EC Tryz.prog 188 [.ptr 4 0,.agg (fS s)] (oN n 0 1 2 3 [bg al]) fun g hp'=>g=I r.1∧hp'=(oN r.2.1 0 1 2 3 [bg r.2.2]):=by
 unfold Lgg at h
 refine Kix (Fr.of 0 _) Tryz.func188 E (Fr.of_ok _) Z fun _=>Kcg<|gA 2 E<|Kqc E E E E Z<|gO 15 E<|jC E h (fun h1=>?_) fun h2=>gA 3 E<|Kck hmix (by kernel_rfl)<|gA 6 E<|gl_o E (Kkp hΓ (kv:=kS) (agg:=false) (enc:=(eH (some 0))) n.passes s.Join (0:Nat) E E E E Khm E E E (Kko E) E)<|bK h2 fun q3 hq3 h4=>Kcf hΓ 5 E<|Kgn [(0,.ptr 4 0),(3,.ptr 6 0),(5,.d (.hd (some 0) ((mGet n.passes s.Join).getD 0))),(43,B q3)] (oN n 0 1 2 3 [bg al,.box 37 (fS s)]) ?_ ?_
 ·exact gA 7 E<|Kgj<|oSi h1▸Kec hΓ [_] (.inr E) E E E E (.inr ⟨HB.mk E,E⟩)
 ·refine Kck hmix (by kernel_rfl)<|gA 4 E<|Kaw E E (fun hb=>?_) (fun hb=>?_)
  ·have h5:=cT hq3 hb
   refine Kcf hΓ 6 E<|Kbr E E (Khw hΓ (kv:=kS) (agg:=false) (enc:=eB) n.users s.By (false:Bool) E E E E Khm E E E E E E E)<|Kcf hΓ 3 E<|Kaw E E (fun hb=>?_) (fun hb=>?_)
   ·have h6:=cT h5 hb
    exact Kcf hΓ 9 E<|oSi h6▸⟨⟨E,E,E,E,tV⟩,[],E,.inl E⟩
   have h7:=cF h5 hb
   refine Kcf hΓ 4 E<|Kaw E E (fun hb=>?_) (fun hb=>?_)
   ·have h8:=cT h7 hb
    exact Kcf hΓ 1 E<|Kbr E E ((Kkt hΓ E E E E).1)<|Kcf hΓ 3 E<|oSi h8▸⟨⟨E,E,E,E,tV⟩,[],E,.inl E⟩
   have h9:=cF h7 hb
   exact Kcf hΓ 5 E<|oSi h9▸⟨⟨E,E,E,E,tV⟩,[],E,.inl E⟩
  have h10:=cF hq3 hb
  refine Kcf hΓ 14 E<|Kaw E E (fun hb=>?_) (fun hb=>?_)
  ·have h11:=cT h10 hb
   exact Kcf hΓ 1 E<|Kbr E E ((Kkt hΓ E E E E).1)<|Kcf hΓ 3 E<|oSi h11▸⟨⟨E,E,E,E,tV⟩,[],E,.inl E⟩
  have h12:=cF h10 hb
  exact Kcf hΓ 5 E<|oSi h12▸⟨⟨E,E,E,E,tV⟩,[],E,.inl E⟩
 refine gA 1 E<|jC E h4 (fun h13=>?_) fun h14=>bK h14 fun y15 hy15 h16=>gA 8 E<|Kdo [5] (I y15) (oN n 0 1 2 3 [bg al,.box 37 (fS s)]) C (Lnd hy15) E Z E E E E E E E E E E<|gO 9 E<|jC E h16 (fun h17=>?_) fun h18=>?_
 ·exact gA 7 E<|Kgj<|oSi h13▸Kec hΓ [_] (.inr E) E E E E (.inr ⟨HB.mk E,E⟩)
 ·exact gA 8 E<|Kgj<|oSi h17▸Kec hΓ [_] (.inr E) E E E E (.inr ⟨HB.mk E,E⟩)
 refine gA 5 E<|Kck hmix (by kernel_rfl)<|gA 6 E<|gl_o E (Kjz hΓ (kv:=kS) (te:=233) (sz:=11) (enc:=Lkp) n.story s.Node E E E E Khm E E E E E)<|bK h18 fun b19 hb19 h20=>gl_o E ((Kmi hΓ hb19 E E E E).2)<|Kcf hΓ 3 E<|jC E h20 (fun h21=>?_) fun h22=>bK h22 fun y23 hy23 h24=>gA 5 E<|Kdo [0,1,2,3,4] (B y23) (oN n 0 1 2 3 [bg al,.box 37 (fS s)]) C (Lne hy23) E Z E E E E E E E E E E<|gO 3 E<|jC E h24 (fun h25=>?_) fun h26=>?_
 ·exact gA 8 E<|Kgj<|oSi h21▸Kec hΓ [_] (.inr E) E E E E (.inr ⟨HB.mk E,E⟩)
 ·exact gA 8 E<|Kgj<|oSi h25▸Kec hΓ [_] (.inr E) E E E E (.inr ⟨HB.mk E,E⟩)
 refine gA 6 E<|eo_o E (Kip hΓ (kv:=kS) (agg:=true) (enc:=Lko) n.there E E E E)<|gO 4 E<|jC E h26 (fun h27=>?_) fun h28=>gA 4 E<|Kfn [.dead,.dead,.dead,.dead,bN n 0 1 2 3,.dead,.box 37 (fS s)] [1,3,5,7,9,14] [17,18] [] hmix (by kernel_rfl) (by kernel_rfl) ⟨E,E,tV⟩ Z<|go_E hΓ 16 E<|ge_q E (.inl E) (fun _ _=>Kfq (qt_p (Kge hΓ (gs:=[S s.Node,S s.By,S s.Name,S s.Public,.d (Sl eS []),I s.At,I 0,B (!n.d.Approve)]) E E E E E E)))<|ge_h (oN n 0 1 2 3 [bg al,.box 37 (fS s),.box 77 [S [],S [],S [],S [],.d (Sl eS []),I 0,I 0,B false]]) E E E (Kfu ⟨E,E,tV⟩) (Kfx (Kgc hΓ (hi:=show Γ 77=some ⟨_,_,_,_⟩ from E) E))<|Kfs (oN n 0 1 2 3 [bg al,.box 37 (fS s),.box 77 [S s.Node,S s.By,S s.Name,S s.Public,.d (Sl eS []),I s.At,I 0,B (!n.d.Approve)]]) E E (Kfu ⟨E,E,tV⟩) (Kfy (Kgy hΓ E E E E E E E E E))<|Kfp<|gA 5 E<|eo_o E ((Kkt hΓ E E E E).2)<|bK h28 fun q29 hq29 h30=>gO 2 E<|Kgn [(0,.ptr 4 0),(3,.ptr 6 0),(7,.ptr 7 0)] (oN n 0 1 2 3 [bg q29.1,.box 37 (fS s),.box 77 (fM q29.2)]) ?_ ?_
 ·exact gA 8 E<|Kgj<|oSi h27▸Kec hΓ [_] (.inr E) E E E E (.inr ⟨HB.mk E,E⟩)
 ·refine jC E hq29 (fun h31=>?_) fun h66=>gA 1 E<|oSi h66▸⟨⟨E,E,E,tV⟩,[],E,.inl E⟩
  refine gK h31 fun hg33 h32=>gA 3 E<|eo_o E (Kmc hg33 E)<|eo_o E (Kmd hΓ hg33 E E E E E E)<|bK h32 fun m34 hm34 h35=>eo_o E (Kme hΓ (enc:=Lkr) (bg:=5) m34 E E (ArU.l _ (Kki (fun _ _=>E) hm34 m34)) E (g:=I m34.used) E E)<|gK h35 fun hg37 h36=>gO 1 E<|eo_o E (Kmc hg37 E)<|eo_o E (Kmd hΓ hg37 E E E E E E)<|bK h36 fun m38 hm38 h39=>eo_u Z (Kmf hΓ (enc:=Lkr) (bg:=5) m38 (⟨m38.Join,m38.revoked,wi (m34.used+1)⟩:Ldp) E E (ArU.l _ (Kki (fun _ _=>E) hm38 (⟨m38.Join,m38.revoked,wi (m34.used+1)⟩:Ldp))) E E (by intro e;cases e) E E E E E E E) ?_
  refine Kdx (oN n 0 1 2 3 [.bag al.1 (arX (hSet al.2.1 ((mGet n.passes s.Join).getD 0) (⟨m38.Join,m38.revoked,wi (m34.used+1)⟩:Ldp)) al.2.2.1 al.2.2.2.1 al.2.2.2.2.1 al.2.2.2.2.2) [],.box 37 (fS s),.box 77 [S s.Node,S s.By,S s.Name,S s.Public,.d (Sl eS []),I s.At,I 0,B (!n.d.Approve)]]) E<|gK h39 fun hg41 h40=>gO 5 E<|eo_o E (Kmc hg41 E)<|eo_o E (Kmd hΓ hg41 E E E E E E)<|eo_o E (Kmd hΓ hg41 E E E E E E)<|bK h40 fun m42 hm42 h43=>eo_o E (Kme hΓ (enc:=Lkr) (bg:=5) m42 E E (ArU.l _ (Kki (fun _ _=>E) hm42 m42)) E (g:=.d (Sl eS m42.Join.Tags)) E E)<|bK h43 fun y44 hy44 h45=>Kdp C (Pure.rows (Lnf hy44) E E) E Z E E E E E<|gO 1 E<|Kqg hΓ E E E E E E E E Z<|Kdx (oN n 0 1 2 3 [.bag al.1 (arX (hSet al.2.1 ((mGet n.passes s.Join).getD 0) (⟨m38.Join,m38.revoked,wi (m34.used+1)⟩:Ldp)) al.2.2.1 al.2.2.2.1 al.2.2.2.2.1 al.2.2.2.2.2) [],.box 37 (fS s),.box 77 [S s.Node,S s.By,S s.Name,S s.Public,.d (Sl eS y44),I s.At,I 0,B (!n.d.Approve)]]) E<|gK h45 fun hg47 h46=>gO 6 E<|eo_o E (Kmc hg47 E)<|eo_o E (Kmd hΓ hg47 E E E E E E)<|eo_o E (Kmd hΓ hg47 E E E E E E)<|bK h46 fun m48 hm48 h49=>eo_o E (Kme hΓ (enc:=Lkr) (bg:=5) m48 E E (ArU.l _ (Kki (fun _ _=>E) hm48 m48)) E (g:=.d (Sl eS m48.Join.Tags)) E E)<|bK h49 fun q50 hq50 h51=>gO 4 E<|Kgn [(0,.ptr 4 0),(3,.ptr 6 0),(5,.d (.hd (some 0) ((mGet n.passes s.Join).getD 0))),(7,.ptr 7 0)] (oN n 0 1 2 3 [.bag al.1 (arX (hSet al.2.1 ((mGet n.passes s.Join).getD 0) (⟨m38.Join,m38.revoked,wi (m34.used+1)⟩:Ldp)) al.2.2.1 al.2.2.2.1 al.2.2.2.2.1 al.2.2.2.2.2) [],.box 37 (fS s),.box 77 [S s.Node,S q50,S s.Name,S s.Public,.d (Sl eS y44),I s.At,I 0,B (!n.d.Approve)]]) ?_ ?_
  ·refine jC E hq50 (fun h52=>?_) fun h57=>gA 1 E<|oSi h57▸⟨⟨E,E,E,E,tV⟩,[],E,.inl E⟩
   exact gK h52 fun hg54 h53=>gA 2 E<|eo_o E (Kmc hg54 E)<|eo_o E (Kmd hΓ hg54 E E E E E E)<|eo_o E (Kmd hΓ hg54 E E E E E E)<|bK h53 fun m55 hm55 h56=>eo_o E (Kme hΓ (enc:=Lkr) (bg:=5) m55 E E (ArU.l _ (Kki (fun _ _=>E) hm55 m55)) E (g:=S m55.Join.By) E E)<|gO 1 E<|Kqg hΓ E E E E E E E E Z<|Kdx (oN n 0 1 2 3 [.bag al.1 (arX (hSet al.2.1 ((mGet n.passes s.Join).getD 0) (⟨m38.Join,m38.revoked,wi (m34.used+1)⟩:Ldp)) al.2.2.1 al.2.2.2.1 al.2.2.2.2.1 al.2.2.2.2.2) [],.box 37 (fS s),.box 77 [S s.Node,S m55.Join.By,S s.Name,S s.Public,.d (Sl eS y44),I s.At,I 0,B (!n.d.Approve)]]) E<|gO 1 E<|oSi h56▸⟨⟨E,E,E,E,tV⟩,[],E,.inl E⟩
  refine gA 5 E<|bK h51 fun q58 hq58 h59=>Kcn 6 [(0,.ptr 4 0),(3,.ptr 6 0),(7,.ptr 7 0),(126,B q58)] (oN n 0 1 2 3 [.bag al.1 (arX (hSet al.2.1 ((mGet n.passes s.Join).getD 0) (⟨m38.Join,m38.revoked,wi (m34.used+1)⟩:Ldp)) al.2.2.1 al.2.2.2.1 al.2.2.2.2.1 al.2.2.2.2.2) [],.box 37 (fS s),.box 77 [S s.Node,S q50,S s.Name,S s.Public,.d (Sl eS y44),I s.At,I 0,B (!n.d.Approve)]]) ?_ ?_
  ·refine Kov E E (fun hb=>?_) (fun hb=>?_)
   ·have h60:=cT hq58 hb
    exact gO 7 E<|oSi h60▸⟨⟨E,E,E,E,tV⟩,[],E,.inl E⟩
   have h61:=cF hq58 hb
   exact gK h61 fun hg63 h62=>gO 1 E<|Kot E<|eo_o E (Kmc hg63 E)<|Kot E<|eo_o E (Kmd hΓ hg63 E E E E E E)<|Kot E<|eo_o E (Kmd hΓ hg63 E E E E E E)<|bK h62 fun m64 hm64 h65=>Kot E<|eo_o E (Kme hΓ (enc:=Lkr) (bg:=5) m64 E E (ArU.l _ (Kki (fun _ _=>E) hm64 m64)) E (g:=B m64.Join.Ready) E E)<|gO 2 E<|oSi h65▸⟨⟨E,E,E,E,tV⟩,[],E,.inl E⟩
  exact gO 1 E<|Kqg hΓ E E E E E E E E Z<|Kdx (oN n 0 1 2 3 [.bag al.1 (arX (hSet al.2.1 ((mGet n.passes s.Join).getD 0) (⟨m38.Join,m38.revoked,wi (m34.used+1)⟩:Ldp)) al.2.2.1 al.2.2.2.1 al.2.2.2.2.1 al.2.2.2.2.2) [],.box 37 (fS s),.box 77 [S s.Node,S q50,S s.Name,S s.Public,.d (Sl eS y44),I s.At,I 0,B q58]]) E<|gO 1 E<|oSi h59▸⟨⟨E,E,E,tV⟩,[],E,.inl E⟩
 exact bK h30 fun y67 hy67 h68=>gA 8 E<|Kdo [0,1,2,3,4] (I y67) (oN n 0 1 2 3 [bg q29.1,.box 37 (fS s),.box 77 (fM q29.2)]) C (Lng hy67) E Z E E E E E E E E E E<|gO 1 E<|Kqg hΓ E E E E E E E E Z<|Kdx (oN n 0 1 2 3 [bg q29.1,.box 37 (fS s),.box 77 [S q29.2.Node,S q29.2.User,S q29.2.Name,S q29.2.Public,.d (Sl eS q29.2.Tags),I q29.2.Joined,I y67,B q29.2.Approved]]) E<|bK h68 fun y69 hy69 h70=>gO 8 E<|Kdo [0,1,2,3,4,5] (.tup []) (oN y69.1 0 1 2 3 [bg y69.2,.box 37 (fS s),.box 77 [S q29.2.Node,S q29.2.User,S q29.2.Name,S q29.2.Public,.d (Sl eS q29.2.Tags),I q29.2.Joined,I y67,B q29.2.Approved]]) C (Lnh hy69) E Z E E E E E E E E E E<|gO 8 E<|Kgj<|oSi h70▸Kec hΓ [_,_] (.inr E) E E E E (.inr ⟨HB.mk E,E⟩)
theorem Lnj{o:Ldf}{x:Str}{r:Bool}(h:Lgh o x=some r):EC Tryz.prog 210 [.agg [S o.Tag,.d (Sl eS o.Users)],.ptr 0 0] [.box 9 [S x]] fun g hp'=>g=B r∧hp'=[.box 9 [S x]]:=by
 unfold Lgh at h
 exact Kon (Fr.of 0 _) Tryz.func210 E (Fr.of_ok _) Z fun _=>Kcg<|gA 2 E<|Kqc E E E E Z<|gO 13 E<|oSi h▸Kec hΓ [_] (.inr E) E E E E (.inr ⟨HB.mk E,E⟩)
theorem Lnk{s:List Ldf}{f:Str}{r:Int}(h:Lgi s f=some r):EC Tryz.prog 209 [.d (Sl Lki s),.fn (.func 210) [] [.ptr 0 0]] [.box 9 [S f]] fun g hp'=>g=I r∧hp'=[.box 9 [S f]]:=by
 unfold Lgi at h
 refine Kon (Fr.of 0 _) Tryz.func209 E (Fr.of_ok _) Z fun _=>Kcg<|gA 13 E<|bK h fun q4 hq4 h5=>Kcx 0 E fun hb7=>Kgm (R:=fun a6=>q4=.go a6) (fun a6=>[]) (fun a6=>[.box 9 [S f]]) ?_ ?_
 ·refine gA 1 E<|Kcw s hq4 (fun i1 s2=>[(0,.d (Sl Lki s)),(1,.fn (.func 210) [] [.ptr 0 0]),(7,I (s.length:Int)),(8,I (i1:Int))]) (fun s2=>[.box 9 [S f]]) ⟨⟨E,E,E,E,tV⟩,[],E,.inl E⟩ (fun i1 x3 s2 y11 hx8 hlt hy9 hout10=>?_) (fun s2 hgo=>?_)
  ·refine gA 6 E<|Kci E (decide_eq_true (Int.ofNat_lt.2 hlt))<|gA 15 E<|eo_o E (Kcy hΓ (enc:=Lki) (Kcr hx8) E E E E E (fun _=>E))<|bK hy9 fun y12 hy12 h13=>gO 1 E<|Kdo [0] (B y12) [.box 9 [S f]] C (Lnj hy12) E Z E E E E E E E E E E<|gO 2 E<|jC E h13 (fun h14=>?_) fun h17=>gA 7 E ?_
   ·refine gA 9 E<|bK h14 fun v15 hv15 h16=>?_
    cases h16
    obtain rfl:=hout10 _ rfl
    cases h5
    exact gA 4 E<|oSi hv15▸Kec hΓ [] (.inr E) E E E E (.inl E)
   cases h17
   exact⟨_,E,⟨⟨E,E,E,Kbp E (Kbo (nLl hlt hb7)),tV⟩,[],E,.inl E⟩⟩
  subst hgo
  exact gA 6 E<|Kcj E (decide_eq_false (Int.lt_irrefl _))<|gA 4 E<|⟨_,E,⟨tV,[],E,.inl E⟩⟩
 intro a6 ha
 subst ha
 replace h5:=Kgh h5
 exact gA 7 E<|oSi h5▸Kec hΓ [] (.inr E) E E E E (.inl E)
theorem Lnl{d:Ldg}{user:Str}{tag:Str}{r:Bool×Bool}(h:Lgj d user tag=some r):Pure Tryz.prog 102 [.agg (fD d),S user,S tag] (.tup [B r.1,B r.2]):=by
 unfold Lgj at h
 refine Pure.enter (Fr.of 0 _) Tryz.func102 E (Fr.of_ok _) E E<|Kcg<|gA 2 E<|Kqc E E E E Z<|Kqc E E E E Z<|bK h fun y1 hy1 h2=>gO 9 E<|Kdo [1] (I y1) [.box 29 (fD d),.box 9 [S tag]] C (Lnk hy1) E Z E E E E E E E E E E<|gO 8 E<|bK h2 fun q3 hq3 h4=>Kcn 9 [(6,B false),(7,B false),(8,I y1),(24,B q3)] [.box 29 (fD d),.box 9 [S tag]] ?_ ?_
 ·refine Kov E E (fun hb=>?_) (fun hb=>?_)
  ·have h5:=cT hq3 hb
   exact bK h5 fun x6 hx6 h7=>gO 3 E<|Kot E<|eo_o E (Kcy hΓ (enc:=Lki) hx6 E E E E E (fun _=>E))<|bK h7 fun y8 hy8 h9=>gO 3 E<|Kot E<|Kdp C (Lls hy8) E Z E E E E E<|gO 2 E<|oSi h9▸⟨⟨E,E,E,E,tV⟩,[],E,.inl E⟩
  have h10:=cF hq3 hb
  exact gO 10 E<|oSi h10▸⟨⟨E,E,E,E,tV⟩,[],E,.inl E⟩
 exact gO 7 E<|oSi h4▸gP E E
theorem Lnm{n:Ldn}{user:Str}{tags:List Str}{r:Int}(h:Lgk n user tags=some r):EC Tryz.prog 268 [.ptr 4 0,S user,.d (Sl eS tags)] (oN n 0 1 2 3 []) fun g hp'=>g=I r∧hp'=(oN n 0 1 2 3 []):=by
 unfold Lgk at h
 refine Kon (Fr.of 0 _) Tryz.func268 E (Fr.of_ok _) Z fun _=>Kcg<|gA 13 E<|bK h fun q4 hq4 h5=>Kcx 11 E fun hb7=>Kgm (R:=fun a6=>q4=.go a6) (fun a6=>[]) (fun a6=>(oN n 0 1 2 3 [])) ?_ ?_
 ·refine gA 1 E<|Kcw tags hq4 (fun i1 s2=>[(0,.ptr 4 0),(1,S user),(11,.d (Sl eS tags)),(12,I (tags.length:Int)),(13,I (i1:Int))]) (fun s2=>(oN n 0 1 2 3 [])) ⟨⟨E,E,E,E,E,tV⟩,[],E,.inl E⟩ (fun i1 x3 s2 y11 hx8 hlt hy9 hout10=>?_) (fun s2 hgo=>?_)
  ·refine gA 6 E<|Kci E (decide_eq_true (Int.ofNat_lt.2 hlt))<|gA 6 E<|eo_o E (Kcy hΓ (enc:=eS) (Kcr hx8) E E E E E (fun _=>E))<|bK hy9 fun y12 hy12 h13=>gO 12 E<|Kdp C (Lnl hy12) E Z E E E E E<|gO 14 E<|jC E h13 (fun h14=>?_) fun h17=>gA 8 E<|jC E h17 (fun h18=>?_) fun h21=>?_
   ·refine gA 9 E<|bK h14 fun v15 hv15 h16=>?_
    cases h16
    obtain rfl:=hout10 _ rfl
    cases h5
    exact gA 4 E<|oSi hv15▸Kec hΓ [] (.inr E) E E E E (.inl E)
   ·refine gA 8 E<|bK h18 fun v19 hv19 h20=>?_
    cases h20
    obtain rfl:=hout10 _ rfl
    cases h5
    exact gA 4 E<|oSi hv19▸Kec hΓ [] (.inr E) E E E E (.inl E)
   refine gA 7 E ?_
   cases h21
   exact⟨_,E,⟨⟨E,E,E,E,Kbp E (Kbo (nLl hlt hb7)),tV⟩,[],E,.inl E⟩⟩
  subst hgo
  exact gA 6 E<|Kcj E (decide_eq_false (Int.lt_irrefl _))<|gA 4 E<|⟨_,E,⟨tV,[],E,.inl E⟩⟩
 intro a6 ha
 subst ha
 replace h5:=Kgh h5
 exact gA 7 E<|oSi h5▸Kec hΓ [] (.inr E) E E E E (.inl E)
theorem Lnn{n:Ldn}{s:Ldh}{al:BagT}{r:Int×Ldn×BagT}(h:Lgl n s al=some r):EC Tryz.prog 189 [.ptr 4 0,.agg (fS s)] (oN n 0 1 2 3 [bg al]) fun g hp'=>g=I r.1∧hp'=(oN r.2.1 0 1 2 3 [bg r.2.2]):=by
 unfold Lgl at h
 refine Kix (Fr.of 0 _) Tryz.func189 E (Fr.of_ok _) Z fun _=>Kcg<|gA 2 E<|Kqc E E E E Z<|gO 5 E<|Kck hmix (by kernel_rfl)<|gA 6 E<|gl_o E (Kkp hΓ (kv:=kS) (agg:=false) (enc:=(eH (some 0))) n.passes s.Join (0:Nat) E E E E Khm E E E (Kko E) E)<|gl_o E ((Kkt hΓ E E E E).2)<|Kcf hΓ 2 E<|jC E h (fun h1=>?_) fun h2=>bK h2 fun y3 hy3 h4=>gA 7 E<|Kdp C (Lmk hy3) E Z E E E E E<|gO 1 E<|bK h4 fun q5 hq5 h6=>Kcn 7 [(0,.ptr 4 0),(3,.ptr 6 0),(24,B q5)] (oN n 0 1 2 3 [bg al,.box 37 (fS s)]) ?_ ?_
 ·exact gA 7 E<|Kgj<|oSi h1▸Kec hΓ [_] (.inr E) E E E E (.inr ⟨HB.mk E,E⟩)
 ·refine Kov E E (fun hb=>?_) (fun hb=>?_)
  ·have h7:=cT hq5 hb
   exact gO 8 E<|oSi h7▸⟨⟨E,E,E,tV⟩,[],E,.inl E⟩
  have h8:=cF hq5 hb
  exact bK h8 fun y9 hy9 h10=>gO 5 E<|Kot E<|Kdp C (Lmk hy9) E Z E E E E E<|gO 2 E<|oSi h10▸⟨⟨E,E,E,tV⟩,[],E,.inl E⟩
 refine gO 2 E<|jC E h6 (fun h11=>?_) fun h12=>bK h12 fun y13 hy13 h14=>gA 10 E<|Kdo [0,1,2,3,4] (I y13) (oN n 0 1 2 3 [bg al,.box 37 (fS s)]) C (Lnm hy13) E Z E E E E E E E E E E<|gO 9 E<|jC E h14 (fun h15=>?_) fun h16=>?_
 ·exact gA 7 E<|Kgj<|oSi h11▸Kec hΓ [_] (.inr E) E E E E (.inr ⟨HB.mk E,E⟩)
 ·exact gA 8 E<|Kgj<|oSi h15▸Kec hΓ [_] (.inr E) E E E E (.inr ⟨HB.mk E,E⟩)
 exact gA 3 E<|Kfn [.dead,.dead,.dead,.dead,bN n 0 1 2 3,.dead,.box 37 (fS s)] [3,5,7,9,11,14,16,18] [21,22] [] hmix (by kernel_rfl) (by kernel_rfl) ⟨E,E,tV⟩ Z<|bK h16 fun y17 hy17 h18=>go_E hΓ 12 E<|Kga C (Pure.rows (Lnf hy17) E E) E E E E E E<|go_E hΓ 6 E<|ge_q E (.inl E) (fun _ _=>Kfq (qt_p (Kge hΓ (gs:=[S s.Join,S s.By,.d (Sl eS y17),I s.Until,I s.Uses,B s.Ready]) E E E E E E)))<|ge_q E (.inl E) (fun _ _=>Kfq (qt_p (Kge hΓ (gs:=[S s.Join,S s.By,.d (Sl eS y17),I s.Until,I s.Uses,B s.Ready,B false,I 0]) E E E E E E)))<|ge_h (oN n 0 1 2 3 [bg al,.box 37 (fS s),.box 215 [S s.Join,S s.By,.d (Sl eS y17),I s.Until,I s.Uses,B s.Ready,B false,I 0]]) E E E (Kfu ⟨E,E,tV⟩) (Kfx (Kgd E E E))<|Kfs [mObB n.users,mObH (mSet n.passes s.Join (al.1.length+1)),mObM n.there,mObT n.story,bN n 0 1 2 3,.bag (al.1++[false]) (arX ((al.1.length,(⟨(⟨s.Join,s.By,y17,s.Until,s.Uses,s.Ready⟩:Ldo),false,0⟩:Ldp)) :: al.2.1) al.2.2.1 al.2.2.2.1 al.2.2.2.2.1 al.2.2.2.2.2) [],.box 37 (fS s),.dead] E E (Kfu ⟨E,E,tV⟩) (Kfy (Kit (Kkg (hp2:=(oN n 0 1 2 3 [.bag (al.1++[false]) (arX ((al.1.length,(⟨(⟨s.Join,s.By,y17,s.Until,s.Uses,s.Ready⟩:Ldo),false,0⟩:Ldp)) :: al.2.1) al.2.2.1 al.2.2.2.1 al.2.2.2.2.1 al.2.2.2.2.2) [],.box 37 (fS s),.dead])) (bg:=5) (id:=7) (a:=(fB 215 Lkr) al.1.length (⟨(⟨s.Join,s.By,y17,s.Until,s.Uses,s.Ready⟩:Ldo),false,0⟩:Ldp)) [(55,some 0)] ⟨E,tV⟩ E E ⟨E,E⟩ E E (Kkl _ Kkk) E E) (Kia hΓ (kv:=kS) (agg:=false) (enc:=(eH (some 0))) (id:=1) n.passes s.Join (al.1.length+1) E E E Khm E E E E E) Z))<|Kfp<|gA 7 E<|Kgj<|oSi h18▸Kec hΓ [_,_] (.inr E) E E E E (.inr ⟨HB.mk E,E⟩)
theorem Lno{n:Ldn}{s:Ldh}{al:BagT}{r:Int×BagT}(h:Lgm n s al=some r):EC Tryz.prog 190 [.ptr 4 0,.agg (fS s)] (oN n 0 1 2 3 [bg al]) fun g hp'=>g=I r.1∧hp'=(oN n 0 1 2 3 [bg r.2]):=by
 unfold Lgm at h
 refine Kon (Fr.of 0 _) Tryz.func190 E (Fr.of_ok _) Z fun _=>Kcg<|gA 2 E<|Kqc E E E E Z<|gO 4 E<|Kck hmix (by kernel_rfl)<|gA 6 E<|gl_o E (Kkp hΓ (kv:=kS) (agg:=false) (enc:=(eH (some 0))) n.passes s.Join (0:Nat) E E E E Khm E E E (Kko E) E)<|Kcf hΓ 8 E<|eo_o E ((Kkt hΓ E E E E).1)<|gO 3 E<|jC E h (fun h1=>?_) fun h2=>gA 1 E<|Kck hmix (by kernel_rfl)<|gK h2 fun hg4 h3=>gA 1 E<|gl_o E (Kmc hg4 E)<|gl_o E (Kmd hΓ hg4 E E E E E E)<|gl_o E (Kmd hΓ hg4 E E E E E E)<|bK h3 fun m5 hm5 h6=>gl_o E (Kme hΓ (enc:=Lkr) (bg:=5) m5 E E (ArU.l _ (Kki (fun _ _=>E) hm5 m5)) E (g:=S m5.Join.By) E E)<|Kcf hΓ 6 E<|jC E h6 (fun h7=>?_) fun h8=>?_
 ·exact gA 8 E<|oSi h1▸Kec hΓ [_] (.inr E) E E E E (.inr ⟨HB.mk E,E⟩)
 ·exact gA 8 E<|oSi h7▸Kec hΓ [_] (.inr E) E E E E (.inr ⟨HB.mk E,E⟩)
 refine gK h8 fun hg10 h9=>gA 3 E<|eo_o E (Kmc hg10 E)<|eo_o E (Kmd hΓ hg10 E E E E E E)<|bK h9 fun m11 hm11 h12=>eo_o E (Kme hΓ (enc:=Lkr) (bg:=5) m11 E E (ArU.l _ (Kki (fun _ _=>E) hm11 m11)) E (g:=B m11.revoked) E E)<|gO 3 E<|jC E h12 (fun h13=>?_) fun h14=>gK h14 fun hg16 h15=>gA 6 E<|eo_o E (Kmc hg16 E)<|eo_o E (Kmd hΓ hg16 E E E E E E)<|bK h15 fun m17 hm17 h18=>eo_u Z (Kmf hΓ (enc:=Lkr) (bg:=5) m17 (⟨m17.Join,true,m17.used⟩:Ldp) E E (ArU.l _ (Kki (fun _ _=>E) hm17 (⟨m17.Join,true,m17.used⟩:Ldp))) E E (by intro e;cases e) E E E E E E E) ?_
 ·exact gA 8 E<|oSi h13▸Kec hΓ [_] (.inr E) E E E E (.inr ⟨HB.mk E,E⟩)
 exact Kdx (oN n 0 1 2 3 [.bag al.1 (arX (hSet al.2.1 ((mGet n.passes s.Join).getD 0) (⟨m17.Join,true,m17.used⟩:Ldp)) al.2.2.1 al.2.2.2.1 al.2.2.2.2.1 al.2.2.2.2.2) [],.box 37 (fS s)]) E<|gO 8 E<|oSi h18▸Kec hΓ [_] (.inr E) E E E E (.inr ⟨HB.mk E,E⟩)
theorem Lnp{t:Str}{x:Ldn}{x2:Str}{r:Bool}(h:Lgn t x x2=some r):EC Tryz.prog 269 [S t,.ptr 5 0,.ptr 6 0] (oN x 0 1 2 3 [.box 144 [.ptr 4 0],.box 9 [S x2]]) fun g hp'=>g=B r∧hp'=(oN x 0 1 2 3 [.box 144 [.ptr 4 0],.box 9 [S x2]]):=by
 unfold Lgn at h
 exact Kon (Fr.of 0 _) Tryz.func269 E (Fr.of_ok _) Z fun _=>Kcg<|gA 6 E<|Kck hmix (by kernel_rfl)<|bK h fun y1 hy1 h2=>gA 6 E<|Kdq C (Lnl hy1) E E E E E E<|Kcf hΓ 14 E<|oSi h2▸Kec hΓ [] (.inr E) E E E E (.inl E)
theorem Lnq{s:List Str}{f:Ldn}{f2:Str}{r:Int}(h:Lgo s f f2=some r):EC Tryz.prog 246 [.d (Sl eS s),.fn (.func 269) [] [.ptr 5 0,.ptr 6 0]] (oN f 0 1 2 3 [.box 144 [.ptr 4 0],.box 9 [S f2]]) fun g hp'=>g=I r∧hp'=(oN f 0 1 2 3 [.box 144 [.ptr 4 0],.box 9 [S f2]]):=by
 unfold Lgo at h
 refine Kon (Fr.of 0 _) Tryz.func246 E (Fr.of_ok _) Z fun _=>Kcg<|gA 13 E<|bK h fun q4 hq4 h5=>Kcx 0 E fun hb7=>Kgm (R:=fun a6=>q4=.go a6) (fun a6=>[]) (fun a6=>(oN f 0 1 2 3 [.box 144 [.ptr 4 0],.box 9 [S f2]])) ?_ ?_
 ·refine gA 1 E<|Kcw s hq4 (fun i1 s2=>[(0,.d (Sl eS s)),(1,.fn (.func 269) [] [.ptr 5 0,.ptr 6 0]),(7,I (s.length:Int)),(8,I (i1:Int))]) (fun s2=>(oN f 0 1 2 3 [.box 144 [.ptr 4 0],.box 9 [S f2]])) ⟨⟨E,E,E,E,tV⟩,[],E,.inl E⟩ (fun i1 x3 s2 y11 hx8 hlt hy9 hout10=>?_) (fun s2 hgo=>?_)
  ·refine gA 6 E<|Kci E (decide_eq_true (Int.ofNat_lt.2 hlt))<|gA 15 E<|eo_o E (Kcy hΓ (enc:=eS) (Kcr hx8) E E E E E (fun _=>E))<|bK hy9 fun y12 hy12 h13=>gO 1 E<|Kdo [0,1,2,3,4,5,6] (B y12) (oN f 0 1 2 3 [.box 144 [.ptr 4 0],.box 9 [S f2]]) C (Lnp hy12) E Z E E E E E E E E E E<|gO 2 E<|jC E h13 (fun h14=>?_) fun h17=>gA 7 E ?_
   ·refine gA 9 E<|bK h14 fun v15 hv15 h16=>?_
    cases h16
    obtain rfl:=hout10 _ rfl
    cases h5
    exact gA 4 E<|oSi hv15▸Kec hΓ [] (.inr E) E E E E (.inl E)
   cases h17
   exact⟨_,E,⟨⟨E,E,E,Kbp E (Kbo (nLl hlt hb7)),tV⟩,[],E,.inl E⟩⟩
  subst hgo
  exact gA 6 E<|Kcj E (decide_eq_false (Int.lt_irrefl _))<|gA 4 E<|⟨_,E,⟨tV,[],E,.inl E⟩⟩
 intro a6 ha
 subst ha
 replace h5:=Kgh h5
 exact gA 7 E<|oSi h5▸Kec hΓ [] (.inr E) E E E E (.inl E)
theorem Lnr{s:List Str}{f:Ldn}{f2:Str}{r:Bool}(h:Lgp s f f2=some r):EC Tryz.prog 158 [.d (Sl eS s),.fn (.func 269) [] [.ptr 5 0,.ptr 6 0]] (oN f 0 1 2 3 [.box 144 [.ptr 4 0],.box 9 [S f2]]) fun g hp'=>g=B r∧hp'=(oN f 0 1 2 3 [.box 144 [.ptr 4 0],.box 9 [S f2]]):=by
 unfold Lgp at h
 exact Kon (Fr.of 0 _) Tryz.func158 E (Fr.of_ok _) Z fun _=>Kcg<|bK h fun y1 hy1 h2=>gA 9 E<|Kdo [0,1,2,3,4,5,6] (I y1) (oN f 0 1 2 3 [.box 144 [.ptr 4 0],.box 9 [S f2]]) C (Lnq hy1) E Z E E E E E E E E E E<|gO 5 E<|oSi h2▸Kec hΓ [] (.inr E) E E E E (.inl E)
theorem Lns{n:Ldn}{user:Str}{m:Ldl}{r:Bool}(h:Lgq n user m=some r):EC Tryz.prog 191 [.ptr 4 0,S user,.agg (fM m)] (oN n 0 1 2 3 []) fun g hp'=>g=B r∧hp'=(oN n 0 1 2 3 []):=by
 unfold Lgq at h
 refine Kon (Fr.of 0 _) Tryz.func191 E (Fr.of_ok _) Z fun _=>Kcg<|gA 2 E<|Kqc E E E E Z<|Kqc E E E E Z<|Kqc E E E E Z<|gO 12 E<|jC E h (fun h1=>?_) fun h2=>bK h2 fun y3 hy3 h4=>gA 7 E<|Kdo [0,1,2,3,4,5,6] (B y3) (oN n 0 1 2 3 [.box 144 [.ptr 4 0],.box 9 [S user],.box 77 (fM m)]) C (Lnr hy3) E Z E E E E E E E E E E<|gO 4 E<|oSi h4▸Kec hΓ [_,_,_] (.inr E) E E E E (.inr ⟨HB.mk E,E⟩)
 exact gA 7 E<|oSi h1▸Kec hΓ [_,_,_] (.inr E) E E E E (.inr ⟨HB.mk E,E⟩)
theorem Lnt{n:Ldn}{s:Ldh}{m:Ldl}{al:BagT}{r:Int×Ldn×BagT}(h:Lgr n s m al=some r):EC Tryz.prog 192 [.ptr 4 0,.agg (fS s),.agg (fM m)] (oN n 0 1 2 3 [bg al]) fun g hp'=>g=I r.1∧hp'=(oN r.2.1 0 1 2 3 [bg r.2.2]):=by
 unfold Lgr at h
 refine Kix (Fr.of 0 _) Tryz.func192 E (Fr.of_ok _) Z fun _=>Kcg<|gA 2 E<|Kqc E E E E Z<|Kqc E E E E Z<|bK h fun q1 hq1 h2=>gO 15 E<|Kgp (q:=q1) (fun a3=>[(0,.ptr 4 0),(4,.ptr 6 0),(5,.ptr 7 0),(7,B a3.2)]) (fun a3=>(oN n 0 1 2 3 [bg al,.box 37 (fS s),.box 77 (fM a3.1)])) ?_ ?_
 ·refine gA 7 E<|jC E hq1 (fun h4=>?_) fun h9=>gA 6 E<|jC E h9 (fun h10=>?_) fun h19=>?_
  ·refine gA 7 E<|jC E h4 (fun h5=>?_) fun h8=>gA 4 E<|Kqg hΓ E E E E E E E E Z<|Kdx (oN n 0 1 2 3 [bg al,.box 37 (fS s),.box 77 [S m.Node,S m.User,S m.Name,S m.Public,.d (Sl eS m.Tags),I m.Joined,I m.Expires,B true]]) E<|gO 2 E<|oSi h8▸⟨_,E,⟨⟨E,E,E,E,tV⟩,[],E,.inl E⟩⟩
   refine gA 8 E<|bK h5 fun v6 hv6 h7=>?_
   cases h7
   cases h2
   exact gA 2 E<|Kgj<|oSi hv6▸Kec hΓ [_,_] (.inr E) E E E E (.inr ⟨HB.mk E,E⟩)
  ·refine bK h10 fun y11 hy11 h12=>gA 6 E<|Kdo [0,1,2,3,4] (B y11) (oN n 0 1 2 3 [bg al,.box 37 (fS s),.box 77 (fM m)]) C (Lne hy11) E Z E E E E E E E E E E<|gO 2 E<|jC E h12 (fun h13=>?_) fun h16=>gA 2 E<|Kfn [.dead,.dead,.dead,.dead,.dead,.dead,.box 37 (fS s),.box 77 (fM m)] [1,4,6] [7,9,11] [9,11] hmix (by kernel_rfl) (by kernel_rfl) ⟨E,E,tV⟩ Z<|bK h16 fun y17 hy17 h18=>go_E hΓ 7 E<|ge_h (oN n 0 1 2 3 [bg al,.box 37 (fS s),.box 77 (fM m)]) E E E (Kfu ⟨E,E,tV⟩) (Kfz [0,1,2,3,4] (I y17) (oN n 0 1 2 3 [bg al,.box 37 (fS s),.box 77 (fM m)]) C (Lng hy17) E E E E E E E E E E)<|go_E hΓ 1 E<|Kfs (oN n 0 1 2 3 [bg al,.box 37 (fS s),.box 77 [S m.Node,S m.User,S m.Name,S s.Public,.d (Sl eS m.Tags),I m.Joined,I m.Expires,B m.Approved]]) E E (Kft E) (Kfy (Kgy hΓ E E E E E E E E E))<|go_E hΓ 1 E<|Kfs (oN n 0 1 2 3 [bg al,.box 37 (fS s),.box 77 [S m.Node,S m.User,S m.Name,S s.Public,.d (Sl eS m.Tags),I m.Joined,I y17,B m.Approved]]) E E (Kft E) (Kfy (Kgy hΓ E E E E E E E E E))<|go_E hΓ 1 E<|Kfp<|gA 1 E<|oSi h18▸⟨_,E,⟨⟨E,E,E,E,tV⟩,[],E,.inl E⟩⟩
   refine gA 8 E<|bK h13 fun v14 hv14 h15=>?_
   cases h15
   cases h2
   exact gA 2 E<|Kgj<|oSi hv14▸Kec hΓ [_,_] (.inr E) E E E E (.inr ⟨HB.mk E,E⟩)
  refine gA 6 E<|jC E h19 (fun h20=>?_) fun h25=>gA 6 E<|jC E h25 (fun h26=>?_) fun h39=>?_
  ·refine gA 10 E<|jC E h20 (fun h21=>?_) fun h24=>gA 6 E<|Kqg hΓ E E E E E E E E Z<|Kdx (oN n 0 1 2 3 [bg al,.box 37 (fS s),.box 77 [S m.Node,S m.User,S s.Name,S m.Public,.d (Sl eS m.Tags),I m.Joined,I m.Expires,B m.Approved]]) E<|gO 2 E<|oSi h24▸⟨_,E,⟨⟨E,E,E,E,tV⟩,[],E,.inl E⟩⟩
   refine gA 8 E<|bK h21 fun v22 hv22 h23=>?_
   cases h23
   cases h2
   exact gA 2 E<|Kgj<|oSi hv22▸Kec hΓ [_,_] (.inr E) E E E E (.inr ⟨HB.mk E,E⟩)
  ·refine gA 9 E<|jC E h26 (fun h27=>?_) fun h30=>bK h30 fun y31 hy31 h32=>gA 10 E<|Kdo [0,1,2,3,4] (I y31) (oN n 0 1 2 3 [bg al,.box 37 (fS s),.box 77 (fM m)]) C (Lnm hy31) E Z E E E E E E E E E E<|gO 9 E<|jC E h32 (fun h33=>?_) fun h36=>?_
   ·refine gA 8 E<|bK h27 fun v28 hv28 h29=>?_
    cases h29
    cases h2
    exact gA 2 E<|Kgj<|oSi hv28▸Kec hΓ [_,_] (.inr E) E E E E (.inr ⟨HB.mk E,E⟩)
   ·refine gA 9 E<|bK h33 fun v34 hv34 h35=>?_
    cases h35
    cases h2
    exact gA 2 E<|Kgj<|oSi hv34▸Kec hΓ [_,_] (.inr E) E E E E (.inr ⟨HB.mk E,E⟩)
   exact bK h36 fun y37 hy37 h38=>gA 5 E<|Kdp C (Pure.rows (Lnf hy37) E E) E Z E E E E E<|gO 1 E<|Kqg hΓ E E E E E E E E Z<|Kdx (oN n 0 1 2 3 [bg al,.box 37 (fS s),.box 77 [S m.Node,S [],S m.Name,S m.Public,.d (Sl eS m.Tags),I m.Joined,I m.Expires,B m.Approved]]) E<|gO 1 E<|Kqg hΓ E E E E E E E E Z<|Kdx (oN n 0 1 2 3 [bg al,.box 37 (fS s),.box 77 [S m.Node,S [],S m.Name,S m.Public,.d (Sl eS y37),I m.Joined,I m.Expires,B m.Approved]]) E<|gO 1 E<|Kqg hΓ E E E E E E E E Z<|Kdx (oN n 0 1 2 3 [bg al,.box 37 (fS s),.box 77 [S m.Node,S [],S m.Name,S m.Public,.d (Sl eS y37),I m.Joined,I 345686400,B m.Approved]]) E<|gO 2 E<|oSi h38▸⟨_,E,⟨⟨E,E,E,E,tV⟩,[],E,.inl E⟩⟩
  refine gA 6 E<|jC E h39 (fun h40=>?_) fun h45=>gA 1 E<|Kfn [.dead,.dead,.dead,.dead,bN n 0 1 2 3,.dead,.box 37 (fS s)] [3,5] [6] [] hmix (by kernel_rfl) (by kernel_rfl) ⟨E,E,tV⟩ Z<|go_E hΓ 6 E<|Kfs [mObB n.users,mObH n.passes,mObM (mDel n.there s.Node),mObT n.story,bN n 0 1 2 3,bg al,.box 37 (fS s),.box 77 (fM m)] E E (Kfu ⟨E,E,tV⟩) (Kfx (Knb hΓ (kv:=kS) (agg:=true) (enc:=Lko) (id:=2) n.there s.Node E E E Khm E E E E))<|Kfp<|gA 2 E<|Kfn [.dead,.dead,.dead,mObT n.story,bN n 0 1 2 3,.dead,.box 37 (fS s)] [3,5,9,11,12,14] [17,18] [18] hmix (by kernel_rfl) (by kernel_rfl) ⟨E,E,E,tV⟩ Z<|go_E hΓ 12 E<|ge_p E (fun hp hs=>Kjz hΓ (kv:=kS) (te:=233) (sz:=11) (enc:=Lkp) n.story s.Node E E E E Khm E (hs 3 _ E E) E E E) E<|go_E hΓ 2 E<|ge_q E (.inl E) (fun _ _=>Kfq (qt_p (Kge hΓ (gs:=[I s.At,S [],S [],S [],S [],.d (Sl eS []),I 0,I 0,B false,B true,B false]) E E E E E E)))<|Kgb hΓ (enc:=Lkp) [(⟨s.At,(⟨[],[],[],[],[],0,0,false⟩:Ldl),true,false⟩:Ldm)] E E E E E E E E E E E E<|bK h45 fun y46 hy46 h47=>ge_h [mObB n.users,mObH n.passes,mObM (mDel n.there s.Node),mObT n.story,bN n 0 1 2 3,.bag y46.2 (arX al.2.1 al.2.2.1 al.2.2.2.1 al.2.2.2.2.1 al.2.2.2.2.2) [],.box 37 (fS s),.box 77 (fM m)] E E E (Kfu ⟨E,E,E,tV⟩) (Kfx (Kjg hΓ (enc:=Lkp) (bg:=5) hy46 E E E E E E E E (fun _=>E) E E))<|Kfs [mObB n.users,mObH n.passes,mObM (mDel n.there s.Node),mObT (mSet n.story s.Node y46.1),bN n 0 1 2 3,.bag y46.2 (arX al.2.1 al.2.2.1 al.2.2.2.1 al.2.2.2.2.1 al.2.2.2.2.2) [],.box 37 (fS s),.box 77 (fM m)] E E (Kft E) (Kfy (Kia hΓ (kv:=kS) (agg:=false) (enc:=(eT 233 11 Lkp)) (id:=3) n.story s.Node y46.1 E E E Khm E E E E E))<|Kfp<|gA 8 E<|bK h47 fun v48 hv48 h49=>?_
  ·refine gA 10 E<|jC E h40 (fun h41=>?_) fun h44=>gA 6 E<|Kqg hΓ E E E E E E E E Z<|Kdx (oN n 0 1 2 3 [bg al,.box 37 (fS s),.box 77 [S m.Node,S m.User,S m.Name,S m.Public,.d (Sl eS m.Tags),I m.Joined,I s.At,B m.Approved]]) E<|gO 2 E<|oSi h44▸⟨_,E,⟨⟨E,E,E,E,tV⟩,[],E,.inl E⟩⟩
   refine gA 8 E<|bK h41 fun v42 hv42 h43=>?_
   cases h43
   cases h2
   exact gA 2 E<|Kgj<|oSi hv42▸Kec hΓ [_,_] (.inr E) E E E E (.inr ⟨HB.mk E,E⟩)
  cases h49
  cases h2
  exact gA 2 E<|Kgj<|oSi hv48▸Kec hΓ [_,_] (.inr E) E E E E (.inr ⟨HB.mk E,E⟩)
 intro a3 ha
 subst ha
 replace h2:=Kgg h2
 exact bK h2 fun y50 hy50 h51=>gA 8 E<|Kdo [0,1,2,3,4,5] (.tup []) (oN y50.1 0 1 2 3 [bg y50.2,.box 37 (fS s),.box 77 (fM a3.1)]) C (Lnh hy50) E Z E E E E E E E E E E<|gO 8 E<|Kgj<|oSi h51▸Kec hΓ [_,_] (.inr E) E E E E (.inr ⟨HB.mk E,E⟩)
theorem Lnu{n:Ldn}{s:Ldh}{al:BagT}{r:Int×Ldn×BagT}(h:Lgs n s al=some r):EC Tryz.prog 87 [.ptr 4 0,.agg (fS s)] (oN n 0 1 2 3 [bg al]) fun g hp'=>g=I r.1∧hp'=(oN r.2.1 0 1 2 3 [bg r.2.2]):=by
 unfold Lgs at h
 refine Kix (Fr.of 0 _) Tryz.func87 E (Fr.of_ok _) Z fun _=>Kcg<|gA 2 E<|Kqc E E E E Z<|gO 11 E<|jC E h (fun h1=>?_) fun h4=>gA 4 E<|Kck hmix (by kernel_rfl)<|gA 6 E<|gl_o E (Khw hΓ (kv:=kS) (agg:=false) (enc:=eB) n.users s.By (false:Bool) E E E E Khm E E E E E E E)<|Kcf hΓ 3 E<|jC E h4 (fun h5=>?_) fun h6=>?_
 ·exact bK h1 fun y2 hy2 h3=>gA 4 E<|Kdo [0,1,2,3,4,5] (I y2.1) (oN y2.2.1 0 1 2 3 [bg y2.2.2,.box 37 (fS s)]) C (Lni hy2) E Z E E E E E E E E E E<|gO 5 E<|Kgj<|oSi h3▸Kec hΓ [_] (.inr E) E E E E (.inr ⟨HB.mk E,E⟩)
 ·exact gA 7 E<|Kgj<|oSi h5▸Kec hΓ [_] (.inr E) E E E E (.inr ⟨HB.mk E,E⟩)
 refine gA 16 E<|jC E h6 (fun h7=>?_) fun h10=>gA 6 E<|jC E h10 (fun h11=>?_) fun h14=>?_
 ·exact bK h7 fun y8 hy8 h9=>gA 4 E<|Kdo [0,1,2,3,4,5] (I y8.1) (oN y8.2.1 0 1 2 3 [bg y8.2.2,.box 37 (fS s)]) C (Lnn hy8) E Z E E E E E E E E E E<|gO 6 E<|Kgj<|oSi h9▸Kec hΓ [_] (.inr E) E E E E (.inr ⟨HB.mk E,E⟩)
 ·exact bK h11 fun y12 hy12 h13=>gA 4 E<|Kdo [0,1,2,3,4,5] (I y12.1) (oN n 0 1 2 3 [bg y12.2,.box 37 (fS s)]) C (Lno hy12) E Z E E E E E E E E E E<|gO 6 E<|Kgj<|oSi h13▸Kec hΓ [_] (.inr E) E E E E (.inr ⟨HB.mk E,E⟩)
 refine gA 4 E<|Kfn [.dead,.dead,mObM n.there,.dead,bN n 0 1 2 3,.dead,.box 37 (fS s)] [3,5,6] [10,11] [] hmix (by kernel_rfl) (by kernel_rfl) ⟨E,E,E,tV⟩ Z<|go_E hΓ 6 E<|ge_p E (fun hp hs=>Khx hΓ (kv:=kS) (agg:=true) (enc:=Lko) n.there s.Node ((⟨[],[],[],[],[],0,0,false⟩:Ldl):Ldl) E E E E Khm E (hs 2 _ E E) E E E E E) E<|go_E hΓ 3 E<|ge_h (oN n 0 1 2 3 [bg al,.box 37 (fS s),.box 77 [S [],S [],S [],S [],.d (Sl eS []),I 0,I 0,B false]]) E E E (Kfu ⟨E,E,E,tV⟩) (Kfx (Kgc hΓ (hi:=show Γ 77=some ⟨_,_,_,_⟩ from E) E))<|Kfs (oN n 0 1 2 3 [bg al,.box 37 (fS s),.box 77 [S (((mGet n.there s.Node).getD (⟨[],[],[],[],[],0,0,false⟩:Ldl)).Node),S (((mGet n.there s.Node).getD (⟨[],[],[],[],[],0,0,false⟩:Ldl)).User),S (((mGet n.there s.Node).getD (⟨[],[],[],[],[],0,0,false⟩:Ldl)).Name),S (((mGet n.there s.Node).getD (⟨[],[],[],[],[],0,0,false⟩:Ldl)).Public),.d (Sl eS (((mGet n.there s.Node).getD (⟨[],[],[],[],[],0,0,false⟩:Ldl)).Tags)),I (((mGet n.there s.Node).getD (⟨[],[],[],[],[],0,0,false⟩:Ldl)).Joined),I (((mGet n.there s.Node).getD (⟨[],[],[],[],[],0,0,false⟩:Ldl)).Expires),B (((mGet n.there s.Node).getD (⟨[],[],[],[],[],0,0,false⟩:Ldl)).Approved)]]) E E (Kfu ⟨E,E,E,tV⟩) (Kfy (Kgy hΓ E E E E E E E E E))<|go_E hΓ 1 E<|Kfp<|gA 8 E<|jC E h14 (fun h15=>?_) fun h16=>gA 9 E<|bK h16 fun q17 hq17 h18=>Kcn 7 [(0,.ptr 4 0),(3,.ptr 6 0),(5,.ptr 7 0),(55,B q17)] (oN n 0 1 2 3 [bg al,.box 37 (fS s),.box 77 [S (((mGet n.there s.Node).getD (⟨[],[],[],[],[],0,0,false⟩:Ldl)).Node),S (((mGet n.there s.Node).getD (⟨[],[],[],[],[],0,0,false⟩:Ldl)).User),S (((mGet n.there s.Node).getD (⟨[],[],[],[],[],0,0,false⟩:Ldl)).Name),S (((mGet n.there s.Node).getD (⟨[],[],[],[],[],0,0,false⟩:Ldl)).Public),.d (Sl eS (((mGet n.there s.Node).getD (⟨[],[],[],[],[],0,0,false⟩:Ldl)).Tags)),I (((mGet n.there s.Node).getD (⟨[],[],[],[],[],0,0,false⟩:Ldl)).Joined),I (((mGet n.there s.Node).getD (⟨[],[],[],[],[],0,0,false⟩:Ldl)).Expires),B (((mGet n.there s.Node).getD (⟨[],[],[],[],[],0,0,false⟩:Ldl)).Approved)]]) ?_ ?_
 ·exact gA 7 E<|Kgj<|oSi h15▸Kec hΓ [_,_] (.inr E) E E E E (.inr ⟨HB.mk E,E⟩)
 ·refine Kov E E (fun hb=>?_) (fun hb=>?_)
  ·have h19:=cT hq17 hb
   exact bK h19 fun y20 hy20 h21=>gO 4 E<|Kot E<|Kdo [0,1,2,3,4] (B y20) (oN n 0 1 2 3 [bg al,.box 37 (fS s),.box 77 [S (((mGet n.there s.Node).getD (⟨[],[],[],[],[],0,0,false⟩:Ldl)).Node),S (((mGet n.there s.Node).getD (⟨[],[],[],[],[],0,0,false⟩:Ldl)).User),S (((mGet n.there s.Node).getD (⟨[],[],[],[],[],0,0,false⟩:Ldl)).Name),S (((mGet n.there s.Node).getD (⟨[],[],[],[],[],0,0,false⟩:Ldl)).Public),.d (Sl eS (((mGet n.there s.Node).getD (⟨[],[],[],[],[],0,0,false⟩:Ldl)).Tags)),I (((mGet n.there s.Node).getD (⟨[],[],[],[],[],0,0,false⟩:Ldl)).Joined),I (((mGet n.there s.Node).getD (⟨[],[],[],[],[],0,0,false⟩:Ldl)).Expires),B (((mGet n.there s.Node).getD (⟨[],[],[],[],[],0,0,false⟩:Ldl)).Approved)]]) C (Lns hy20) E Z E E E E E E E E E E<|gO 3 E<|oSi h21▸⟨⟨E,E,E,E,tV⟩,[],E,.inl E⟩
  have h22:=cF hq17 hb
  exact gO 8 E<|oSi h22▸⟨⟨E,E,E,E,tV⟩,[],E,.inl E⟩
 refine gO 2 E<|jC E h18 (fun h23=>?_) fun h24=>bK h24 fun y25 hy25 h26=>gA 7 E<|Kdo [0,1,2,3,4,5] (I y25.1) (oN y25.2.1 0 1 2 3 [bg y25.2.2,.box 37 (fS s),.box 77 [S (((mGet n.there s.Node).getD (⟨[],[],[],[],[],0,0,false⟩:Ldl)).Node),S (((mGet n.there s.Node).getD (⟨[],[],[],[],[],0,0,false⟩:Ldl)).User),S (((mGet n.there s.Node).getD (⟨[],[],[],[],[],0,0,false⟩:Ldl)).Name),S (((mGet n.there s.Node).getD (⟨[],[],[],[],[],0,0,false⟩:Ldl)).Public),.d (Sl eS (((mGet n.there s.Node).getD (⟨[],[],[],[],[],0,0,false⟩:Ldl)).Tags)),I (((mGet n.there s.Node).getD (⟨[],[],[],[],[],0,0,false⟩:Ldl)).Joined),I (((mGet n.there s.Node).getD (⟨[],[],[],[],[],0,0,false⟩:Ldl)).Expires),B (((mGet n.there s.Node).getD (⟨[],[],[],[],[],0,0,false⟩:Ldl)).Approved)]]) C (Lnt hy25) E Z E E E E E E E E E E<|gO 4 E<|Kgj<|oSi h26▸Kec hΓ [_,_] (.inr E) E E E E (.inr ⟨HB.mk E,E⟩)
 exact gA 7 E<|Kgj<|oSi h23▸Kec hΓ [_,_] (.inr E) E E E E (.inr ⟨HB.mk E,E⟩)
theorem Lnv{d:Ldg}{l:List Ldh}{v_at:Int}{al:BagT}{r:Ldn×BagT}(h:Lgt d l v_at al=some r):EC Tryz.prog 139 [.agg (fD d),.d (Sl Lkk l),I v_at] [bg al] fun g hp'=>g=.ptr 5 0∧hp'=(bg r.2::oN r.1 1 2 3 4 []):=by
 unfold Lgt at h
 refine Kix (Fr.of 0 _) Tryz.func139 E (Fr.of_ok _) Z fun _=>Kcg<|gA 2 E<|Kqc E E E E Z<|bK h fun y1 hy1 h2=>gO 6 E<|Kdo [] (.ptr 6 0) (bg al::.box 29 (fD d)::oN y1 2 3 4 5 []) C (Lnc hy1) E Z E E E E E E E E E E<|gO 11 E<|bK h2 fun q6 hq6 h7=>Kcx 12 E fun hb9=>Kgn [(7,.ptr 6 0)] [bg q6.1,.box 29 (fD d),mObB q6.2.1,mObH q6.2.2.1,mObM q6.2.2.2.1,mObT q6.2.2.2.2.1,.box 206 [.d (Sl eS q6.2.2.2.2.2.1),.d (Sl Lki q6.2.2.2.2.2.2.1),I q6.2.2.2.2.2.2.2.1,B q6.2.2.2.2.2.2.2.2,.map 2,.map 3,.map 4,.map 5]] ?_ ?_
 ·refine gA 1 E<|Kee l hq6 (fun i3 s4=>[(2,I v_at),(7,.ptr 6 0),(12,.d (Sl Lkk l)),(13,I (l.length:Int)),(14,I (i3:Int))]) (fun s4=>[bg s4.1,.box 29 (fD d),mObB s4.2.1,mObH s4.2.2.1,mObM s4.2.2.2.1,mObT s4.2.2.2.2.1,.box 206 [.d (Sl eS s4.2.2.2.2.2.1),.d (Sl Lki s4.2.2.2.2.2.2.1),I s4.2.2.2.2.2.2.2.1,B s4.2.2.2.2.2.2.2.2,.map 2,.map 3,.map 4,.map 5]]) ⟨⟨E,E,E,E,E,tV⟩,[],E,.inl E⟩ (fun i3 x5 s4 y13 hx10 hlt hy11=>?_) (?_)
  ·refine gA 6 E<|Kci E (decide_eq_true (Int.ofNat_lt.2 hlt))<|gA 6 E<|eo_o E (Kcy hΓ (enc:=Lkk) (Kcr hx10) E E E E E (fun _=>E))<|gO 1 E<|Kqb hΓ E E E Z<|Kqg hΓ E E E E E E E E Z<|Kdx [bg s4.1,.box 29 (fD d),mObB s4.2.1,mObH s4.2.2.1,mObM s4.2.2.2.1,mObT s4.2.2.2.2.1,.box 206 [.d (Sl eS s4.2.2.2.2.2.1),.d (Sl Lki s4.2.2.2.2.2.2.1),I s4.2.2.2.2.2.2.2.1,B s4.2.2.2.2.2.2.2.2,.map 2,.map 3,.map 4,.map 5],.box 37 (fS x5)] E<|gO 10 E<|jC E hy11 (fun h14=>?_) fun h17=>gA 7 E ?_
   ·refine bK h14 fun y15 hy15 h16=>gA 3 E<|Kdo [2,3,4,5,6,0] (I y15.1) (bg y15.2.2::.box 29 (fD d)::oN y15.2.1 2 3 4 5 [.box 37 (fS x5)]) C (Lnu hy15) E Z E E E E E E E E E E<|gO 7 E ?_
    cases h16
    exact⟨⟨E,E,E,E,Kbp E (Kbo (nLl hlt hb9)),tV⟩,[_],E,.inr ⟨HB.mk E,FB.mk E,Z⟩⟩
   cases h17
   exact⟨⟨E,E,E,E,Kbp E (Kbo (nLl hlt hb9)),tV⟩,[_],E,.inr ⟨HB.mk E,FB.mk E,Z⟩⟩
  exact gA 6 E<|Kcj E (decide_eq_false (Int.lt_irrefl _))<|gA 4 E<|⟨⟨E,tV⟩,[],E,.inl E⟩
 exact gA 8 E<|Kis 1 [bg q6.1,.dead,mObB q6.2.1,mObH q6.2.2.1,mObM q6.2.2.2.1,mObT q6.2.2.2.2.1,.box 206 [.d (Sl eS q6.2.2.2.2.2.1),.d (Sl Lki q6.2.2.2.2.2.2.1),I q6.2.2.2.2.2.2.2.1,B q6.2.2.2.2.2.2.2.2,.map 2,.map 3,.map 4,.map 5]] E Z<|Kgl 2 1 [bg q6.1,mObB q6.2.1,.dead,mObH q6.2.2.1,mObM q6.2.2.2.1,mObT q6.2.2.2.2.1,.box 206 [.d (Sl eS q6.2.2.2.2.2.1),.d (Sl Lki q6.2.2.2.2.2.2.1),I q6.2.2.2.2.2.2.2.1,B q6.2.2.2.2.2.2.2.2,.map 1,.map 3,.map 4,.map 5]] E E E E E E<|Kgl 3 2 [bg q6.1,mObB q6.2.1,mObH q6.2.2.1,.dead,mObM q6.2.2.2.1,mObT q6.2.2.2.2.1,.box 206 [.d (Sl eS q6.2.2.2.2.2.1),.d (Sl Lki q6.2.2.2.2.2.2.1),I q6.2.2.2.2.2.2.2.1,B q6.2.2.2.2.2.2.2.2,.map 1,.map 2,.map 4,.map 5]] E E E E E E<|Kgl 4 3 [bg q6.1,mObB q6.2.1,mObH q6.2.2.1,mObM q6.2.2.2.1,.dead,mObT q6.2.2.2.2.1,.box 206 [.d (Sl eS q6.2.2.2.2.2.1),.d (Sl Lki q6.2.2.2.2.2.2.1),I q6.2.2.2.2.2.2.2.1,B q6.2.2.2.2.2.2.2.2,.map 1,.map 2,.map 3,.map 5]] E E E E E E<|Kgl 5 4 [bg q6.1,mObB q6.2.1,mObH q6.2.2.1,mObM q6.2.2.2.1,mObT q6.2.2.2.2.1,.dead,.box 206 [.d (Sl eS q6.2.2.2.2.2.1),.d (Sl Lki q6.2.2.2.2.2.2.1),I q6.2.2.2.2.2.2.2.1,B q6.2.2.2.2.2.2.2.2,.map 1,.map 2,.map 3,.map 4]] E E E E E E<|Kgl 6 5 [bg q6.1,mObB q6.2.1,mObH q6.2.2.1,mObM q6.2.2.2.1,mObT q6.2.2.2.2.1,.box 206 [.d (Sl eS q6.2.2.2.2.2.1),.d (Sl Lki q6.2.2.2.2.2.2.1),I q6.2.2.2.2.2.2.2.1,B q6.2.2.2.2.2.2.2.2,.map 1,.map 2,.map 3,.map 4],.dead] E E E E E E<|Kgj<|oSi h7▸Kec hΓ [_] (.inr E) E E E E (.inr ⟨HB.mk E,E⟩)
theorem Lnw{d:Ldg}{l:List Ldh}{al:BagT}{r:Ldn×BagT}(h:Lgu d l al=some r):EC Tryz.prog 93 [.agg (fD d),.d (Sl Lkk l)] [bg al] fun g hp'=>g=.ptr 5 0∧hp'=(bg r.2::oN r.1 1 2 3 4 []):=by
 unfold Lgu at h
 exact Kix (Fr.of 0 _) Tryz.func93 E (Fr.of_ok _) Z fun _=>Kcg<|gA 2 E<|Kqc E E E E Z<|bK h fun y1 hy1 h2=>gO 7 E<|Kdo [0] (.ptr 6 0) (bg y1.2::.box 29 (fD d)::oN y1.1 2 3 4 5 []) C (Lnv hy1) E Z E E E E E E E E E E<|gO 4 E<|Kis 1 (bg y1.2::.dead::oN y1.1 2 3 4 5 []) E Z<|Kgl 2 1 [bg y1.2,mObB y1.1.users,.dead,mObH y1.1.passes,mObM y1.1.there,mObT y1.1.story,bN y1.1 1 3 4 5] E E E E E E<|Kgl 3 2 [bg y1.2,mObB y1.1.users,mObH y1.1.passes,.dead,mObM y1.1.there,mObT y1.1.story,bN y1.1 1 2 4 5] E E E E E E<|Kgl 4 3 [bg y1.2,mObB y1.1.users,mObH y1.1.passes,mObM y1.1.there,.dead,mObT y1.1.story,bN y1.1 1 2 3 5] E E E E E E<|Kgl 5 4 [bg y1.2,mObB y1.1.users,mObH y1.1.passes,mObM y1.1.there,mObT y1.1.story,.dead,bN y1.1 1 2 3 4] E E E E E E<|Kgl 6 5 (bg y1.2::oN y1.1 1 2 3 4 [.dead]) E E E E E E<|Kgj<|oSi h2▸Kec hΓ [_] (.inr E) E E E E (.inr ⟨HB.mk E,E⟩)
theorem Lnx{v_to:Int}{x:Ldk}{x2:List Ldk}{r:Ldk×(List Ldk)}(h:Lgv v_to x x2=some r):EC Tryz.prog 150 [I v_to,.ptr 0 0,.ptr 2 0] [.box 107 [S x.Public,I x.From,I x.To],rO 107 3 Lkn x2,.box 95 [.sl 1 x2.length]] fun g hp'=>g=.tup []∧hp'=[.box 107 [S r.1.Public,I r.1.From,I r.1.To],.dead,.box 95 [.sl 3 r.2.length],rO 107 3 Lkn r.2]:=by
 unfold Lgv at h
 refine Kix (Fr.of 0 _) Tryz.func150 E (Fr.of_ok _) Z fun _=>Kcg<|Kfj Z<|Kfh 1 3 [.box 107 [S x.Public,I x.From,I x.To],.dead,.box 95 [.sl 3 x2.length],rO 107 3 Lkn x2] E E E E E E<|gA 4 E<|Kqg hΓ E E E E E E E E Z<|Kdx [.box 107 [S x.Public,I x.From,I v_to],.dead,.box 95 [.sl 3 x2.length],rO 107 3 Lkn x2] E<|gO 9 E<|Kcn 5 [(1,.ptr 0 0),(2,.ptr 2 0),(14,B ((!((x.Public:Str)==[]))&&(decide ((x.From:Int)<v_to))))] [.box 107 [S x.Public,I x.From,I v_to],.dead,.box 95 [.sl 3 x2.length],rO 107 3 Lkn x2] ?_ ?_
 ·refine Kov E E (fun hb=>?_) (fun hb=>?_)
  ·exact gO 6 E<|⟨⟨E,E,Kbq E (Keh hb),tV⟩,[],E,.inl E⟩
  exact gO 6 E<|⟨⟨E,E,Kbq E (Kei hb),tV⟩,[],E,.inl E⟩
 refine bK h fun q1 hq1 h2=>gO 2 E<|Kgn [(1,.ptr 0 0)] [.box 107 [S x.Public,I x.From,I v_to],.dead,.box 95 [.sl 3 q1.length],rO 107 3 Lkn q1] ?_ ?_
 ·refine jC E hq1 (fun h3=>?_) fun h6=>gA 1 E<|oSi h6▸⟨⟨E,tV⟩,[],E,.inl E⟩
  exact gA 3 E<|Kdj hΓ (enc:=Lkn) [(⟨x.Public,x.From,v_to⟩:Ldk)] E E E E E E E E E E E E Z<|bK h3 fun y4 hy4 h5=>Khh 3 [.box 107 [S x.Public,I x.From,I v_to],.dead,.box 95 [.junk],rO 107 3 Lkn x2] E Z<|Kdy hΓ (enc:=Lkn) hy4 E E E E E E E E E (fun _=>E) E E E E<|Kqg hΓ E E E E E E E E Z<|Kdx [.box 107 [S x.Public,I x.From,I v_to],.dead,.box 95 [.sl 3 y4.length],rO 107 3 Lkn y4] E<|gO 1 E<|oSi h5▸⟨⟨E,tV⟩,[],E,.inl E⟩
 exact gA 2 E<|Kam hΓ (gs:=[S [],I 0,I 0]) E E E E E E E<|Kqg hΓ E E E E E E E E Z<|Kdx [.box 107 [S [],I 0,I 0],.dead,.box 95 [.sl 3 q1.length],rO 107 3 Lkn q1] E<|gO 1 E<|Kgj<|oSi h2▸Kec hΓ [] (.inl E) E E E E (.inl E)
theorem Lny{k:Nat}{d:Ldg}{l:List Ldh}{node:Str}{al:BagT}{r:(List Ldk)×Int×BagT}(h:Lgw k d l node al=some r):EC Tryz.prog 55 [.agg (fD d),.d (Sl Lkk l),S node] [bg al] fun g hp'=>g=.tup [.d (Sl Lkn r.1),I r.2.1]∧hp'=[bg r.2.2]:=by
 unfold Lgw at h
 refine Kon (Fr.of 0 _) Tryz.func55 E (Fr.of_ok _) Z fun _=>Kcg<|gA 2 E<|Kqc E E E E Z<|bK h fun y1 hy1 h2=>gO 9 E<|Kdp C (Lnb hy1) E Z E E E E E<|gO 9 E<|Kch E (fun hb=>?_) (fun hb=>?_)
 ·have h3:=cT h2 hb
  exact gA 9 E<|oSi h3▸Kec hΓ [_] (.inr E) E E E E (.inr ⟨HB.mk E,E⟩)
 have h4:=cF h2 hb
 refine bK h4 fun y5 hy5 h6=>gA 6 E<|Kdp C (Lmi hy5) E Z E E E E E<|gO 3 E<|Kch E (fun hb=>?_) (fun hb=>?_)
 ·have h7:=cT h6 hb
  exact gA 8 E<|oSi h7▸Kec hΓ [_] (.inr E) E E E E (.inr ⟨HB.mk E,E⟩)
 have h8:=cF h6 hb
 refine gA 4 E<|eo_s Z (nblt.1 E) (Kji hΓ [0] [.d (.v (.slice none 0 0))] (hi:=show Γ 95=some ⟨_,_,_,_⟩ from E) E ⟨.refl _,tV⟩)<|Kdx [bg al,.box 29 (fD d),.box 95 [.d (.v (.slice none 0 0))]] E<|gO 2 E<|Kjy 2 0 107 3 [bg al,.box 29 (fD d),.box 95 [.sl 3 ([]:List Ldk).length],rO 107 3 Lkn ([]:List Ldk)] E E E Z<|gA 2 E<|Kam hΓ (gs:=[S [],I 0,I 0]) E E E E E E E<|Kqb hΓ E E E Z<|Kqg hΓ E E E E E E E E Z<|Kdx [bg al,.box 29 (fD d),.box 95 [.sl 3 ([]:List Ldk).length],rO 107 3 Lkn ([]:List Ldk),.box 107 [S [],I 0,I 0]] E<|bK h8 fun y9 hy9 h10=>gO 13 E<|Kdo [0] (.ptr 9 0) (bg y9.2::.box 29 (fD d)::.box 95 [.sl 3 ([]:List Ldk).length]::rO 107 3 Lkn ([]:List Ldk)::.box 107 [S [],I 0,I 0]::oN y9.1 5 6 7 8 []) C (Lnw hy9) E Z E E E E E E E E E E<|gO 4 E<|eo_o E (Kjh (Kjz hΓ (kv:=kS) (te:=233) (sz:=11) (enc:=Lkp) y9.1.story node E E E E Khm E E E E E) G.Le.unt)<|gO 4 E<|bK h10 fun q14 hq14 h15=>Kcx 32 E fun hb17=>Kgn [(9,.ptr 2 0),(11,.fn (.func 150) [] [.ptr 4 0,.ptr 2 0])] (bg y9.2::.box 29 (fD d)::.box 95 [.sl 3 q14.1.length]::rO 107 3 Lkn q14.1::.box 107 [S q14.2.Public,I q14.2.From,I q14.2.To]::oN y9.1 5 6 7 8 []) ?_ ?_
 ·refine gA 1 E<|Kee (((mGet y9.1.story node).getD (1,[])).2) hq14 (fun i11 s12=>[(9,.ptr 2 0),(10,.ptr 4 0),(11,.fn (.func 150) [] [.ptr 4 0,.ptr 2 0]),(32,.d (Sl Lkp (((mGet y9.1.story node).getD (1,[])).2))),(33,I ((((mGet y9.1.story node).getD (1,[])).2).length:Int)),(34,I (i11:Int))]) (fun s12=>(bg y9.2::.box 29 (fD d)::.box 95 [.sl 3 s12.1.length]::rO 107 3 Lkn s12.1::.box 107 [S s12.2.Public,I s12.2.From,I s12.2.To]::oN y9.1 5 6 7 8 [])) ⟨⟨E,E,E,E,E,E,tV⟩,[],E,.inl E⟩ (fun i11 x13 s12 y21 hx18 hlt hy19=>?_) (?_)
  ·refine gA 6 E<|Kci E (decide_eq_true (Int.ofNat_lt.2 hlt))<|gA 6 E<|eo_o E (Kcy hΓ (enc:=Lkp) (Kcr hx18) E E E E E (fun _=>E))<|gO 1 E<|Kqb hΓ E E E Z<|Kqg hΓ E E E E E E E E Z<|Kdx (bg y9.2::.box 29 (fD d)::.box 95 [.sl 3 s12.1.length]::rO 107 3 Lkn s12.1::.box 107 [S s12.2.Public,I s12.2.From,I s12.2.To]::oN y9.1 5 6 7 8 [.box 233 [I x13.v_at,S x13.is.Node,S x13.is.User,S x13.is.Name,S x13.is.Public,.d (Sl eS x13.is.Tags),I x13.is.Joined,I x13.is.Expires,B x13.is.Approved,B x13.gone,B x13.key]]) E<|gO 8 E<|Kcn 3 [(9,.ptr 2 0),(10,.ptr 4 0),(11,.fn (.func 150) [] [.ptr 4 0,.ptr 2 0]),(13,.ptr 10 0),(32,.d (Sl Lkp (((mGet y9.1.story node).getD (1,[])).2))),(33,I ((((mGet y9.1.story node).getD (1,[])).2).length:Int)),(34,I (i11:Int)),(43,B (x13.key||x13.gone))] (bg y9.2::.box 29 (fD d)::.box 95 [.sl 3 s12.1.length]::rO 107 3 Lkn s12.1::.box 107 [S s12.2.Public,I s12.2.From,I s12.2.To]::oN y9.1 5 6 7 8 [.box 233 [I x13.v_at,S x13.is.Node,S x13.is.User,S x13.is.Name,S x13.is.Public,.d (Sl eS x13.is.Tags),I x13.is.Joined,I x13.is.Expires,B x13.is.Approved,B x13.gone,B x13.key]]) ?_ ?_
   ·refine Kov E E (fun hb=>?_) (fun hb=>?_)
    ·exact gO 4 E<|⟨⟨E,E,E,E,E,E,E,Kbq E (or_t hb),tV⟩,[],E,.inl E⟩
    exact gO 4 E<|⟨⟨E,E,E,E,E,E,E,Kbq E (or_f hb),tV⟩,[],E,.inl E⟩
   refine bK hy19 fun q22 hq22 h23=>gO 2 E<|Kgn [(9,.ptr 2 0),(10,.ptr 4 0),(11,.fn (.func 150) [] [.ptr 4 0,.ptr 2 0]),(13,.ptr 10 0),(32,.d (Sl Lkp (((mGet y9.1.story node).getD (1,[])).2))),(33,I ((((mGet y9.1.story node).getD (1,[])).2).length:Int)),(34,I (i11:Int))] (bg y9.2::.box 29 (fD d)::.box 95 [.sl 3 q22.1.length]::rO 107 3 Lkn q22.1::.box 107 [S q22.2.Public,I q22.2.From,I q22.2.To]::oN y9.1 5 6 7 8 [.box 233 [I x13.v_at,S x13.is.Node,S x13.is.User,S x13.is.Name,S x13.is.Public,.d (Sl eS x13.is.Tags),I x13.is.Joined,I x13.is.Expires,B x13.is.Approved,B x13.gone,B x13.key]]) ?_ ?_
   ·refine jC E hq22 (fun h24=>?_) fun h27=>gA 1 E<|oSi h27▸⟨⟨E,E,E,E,E,E,E,tV⟩,[],E,.inl E⟩
    exact bK h24 fun y25 hy25 h26=>gA 4 E<|Kdo [4,3,2] (.tup []) (bg y9.2::.box 29 (fD d)::.box 95 [.sl 11 y25.2.length]::.dead::.box 107 [S y25.1.Public,I y25.1.From,I y25.1.To]::oN y9.1 5 6 7 8 [.box 233 [I x13.v_at,S x13.is.Node,S x13.is.User,S x13.is.Name,S x13.is.Public,.d (Sl eS x13.is.Tags),I x13.is.Joined,I x13.is.Expires,B x13.is.Approved,B x13.gone,B x13.key],rO 107 3 Lkn y25.2]) C (Lnx hy25) E Z E E E E E E E E E E<|Kff 11 3 (bg y9.2::.box 29 (fD d)::.box 95 [.sl 3 y25.2.length]::rO 107 3 Lkn y25.2::.box 107 [S y25.1.Public,I y25.1.From,I y25.1.To]::oN y9.1 5 6 7 8 [.box 233 [I x13.v_at,S x13.is.Node,S x13.is.User,S x13.is.Name,S x13.is.Public,.d (Sl eS x13.is.Tags),I x13.is.Joined,I x13.is.Expires,B x13.is.Approved,B x13.gone,B x13.key],.dead]) E E E E E E<|gO 1 E<|oSi h26▸⟨⟨E,E,E,E,E,E,E,tV⟩,[_],E,.inr ⟨HB.mk E,FB.mk E,Z⟩⟩
   refine gA 7 E<|jC E h23 (fun h28=>?_) fun h29=>gA 7 E ?_
   ·refine gA 6 E<|Kam hΓ (gs:=[S x13.is.Public,I x13.v_at,I 0]) E E E E E E E<|Kqg hΓ E E E E E E E E Z<|Kdx (bg y9.2::.box 29 (fD d)::.box 95 [.sl 3 q22.1.length]::rO 107 3 Lkn q22.1::.box 107 [S x13.is.Public,I x13.v_at,I 0]::oN y9.1 5 6 7 8 [.box 233 [I x13.v_at,S x13.is.Node,S x13.is.User,S x13.is.Name,S x13.is.Public,.d (Sl eS x13.is.Tags),I x13.is.Joined,I x13.is.Expires,B x13.is.Approved,B x13.gone,B x13.key]]) E<|gO 7 E ?_
    cases h28
    exact⟨⟨E,E,E,E,E,Kbp E (Kbo (nLl hlt hb17)),tV⟩,[_],E,.inr ⟨HB.mk E,FB.mk E,Z⟩⟩
   cases h29
   exact⟨⟨E,E,E,E,E,Kbp E (Kbo (nLl hlt hb17)),tV⟩,[_],E,.inr ⟨HB.mk E,FB.mk E,Z⟩⟩
  exact gA 6 E<|Kcj E (decide_eq_false (Int.lt_irrefl _))<|gA 4 E<|⟨⟨E,E,tV⟩,[],E,.inl E⟩
 exact bK h15 fun y30 hy30 h31=>gA 4 E<|Kdo [4,3,2] (.tup []) (bg y9.2::.box 29 (fD d)::.box 95 [.sl 10 y30.2.length]::.dead::.box 107 [S y30.1.Public,I y30.1.From,I y30.1.To]::oN y9.1 5 6 7 8 [rO 107 3 Lkn y30.2]) C (Lnx hy30) E Z E E E E E E E E E E<|Kff 10 3 (bg y9.2::.box 29 (fD d)::.box 95 [.sl 3 y30.2.length]::rO 107 3 Lkn y30.2::.box 107 [S y30.1.Public,I y30.1.From,I y30.1.To]::oN y9.1 5 6 7 8 [.dead]) E E E E E E<|gO 6 E<|Kdv 3 [6,59] _ (bg y9.2::.box 29 (fD d)::.box 95 [.d (Sl Lkn y30.2)]::.dead::.box 107 [S y30.1.Public,I y30.1.From,I y30.1.To]::oN y9.1 5 6 7 8 [.dead]) E E E Z<|gO 4 E<|oSi h31▸Kec hΓ [_,_,_,_,_,_,_,_,_,_] (.inr E) E E E E (.inr ⟨HB.mk E,E⟩)
theorem Lnz{k:Nat}{d:Ldg}{l:List Ldh}{v_public:Str}{moment:Int}{al:BagT}{r:Str×Bool×Int×BagT}(h:Lgx k d l v_public moment al=some r):EC Tryz.prog 56 [.agg (fD d),.d (Sl Lkk l),S v_public,I moment] [bg al] fun g hp'=>g=.tup [S r.1,B r.2.1,I r.2.2.1]∧hp'=[bg r.2.2.2]:=by
 unfold Lgx at h
 refine Kon (Fr.of 0 _) Tryz.func56 E (Fr.of_ok _) Z fun _=>Kcg<|gA 2 E<|Kqc E E E E Z<|bK h fun y1 hy1 h2=>gO 10 E<|Kdp C (Lnb hy1) E Z E E E E E<|gO 9 E<|jC E h2 (fun h3=>?_) fun h4=>bK h4 fun y5 hy5 h6=>gA 6 E<|Kdp C (Lmq hy5) E Z E E E E E<|gO 3 E<|jC E h6 (fun h7=>?_) fun h8=>?_
 ·exact gA 10 E<|oSi h3▸Kec hΓ [_] (.inr E) E E E E (.inr ⟨HB.mk E,E⟩)
 ·exact gA 9 E<|oSi h7▸Kec hΓ [_] (.inr E) E E E E (.inr ⟨HB.mk E,E⟩)
 refine bK h8 fun y9 hy9 h10=>gA 6 E<|Kdp C (Lmm hy9) E Z E E E E E<|gO 3 E<|jC E h10 (fun h11=>?_) fun h12=>bK h12 fun y13 hy13 h14=>gA 8 E<|Kdo [0] (.ptr 6 0) (bg y13.2::.box 29 (fD d)::oN y13.1 2 3 4 5 []) C (Lnv hy13) E Z E E E E E E E E E E<|gO 3 E<|Kil hΓ (kv:=kS) (agg:=true) (enc:=Lko) y13.1.there E E E E E Z (fun mr15 bs16 cl17 hpm18 hbl19 hbn20=>?_)
 ·exact gA 9 E<|oSi h11▸Kec hΓ [_] (.inr E) E E E E (.inr ⟨HB.mk E,E⟩)
 refine Kdx [bg y13.2,.box 29 (fD d),mObB y13.1.users,mObH y13.1.passes,mObS kS true Lko y13.1.there (rawM kS Lko mr15 bs16 cl17),mObT y13.1.story,bN y13.1 2 3 4 5,.iter 4 cl17 []] E<|gO 2 E<|bK h14 fun q26 hq26 h27=>gA 1 E<|Klg hq26 hpm18 hbl19 hbn20 (fun s21=>[(2,S v_public),(33,.ptr 7 0)]) (fun sn23 s21=>[bg y13.2,.box 29 (fD d),mObB y13.1.users,mObH y13.1.passes,mObS kS true Lko y13.1.there (rawM kS Lko mr15 bs16 cl17),mObT y13.1.story,bN y13.1 2 3 4 5,.iter 4 cl17 sn23]) ⟨⟨E,E,tV⟩,[],E,.inl E⟩ (fun sn23 s21 hdone28 hstep29=>?_)
 refine gA 2 E<|Kim (kv:=kS) (agg:=true) (enc:=Lko) y13.1.there mr15 bs16 cl17 sn23 (bg y13.2::.box 29 (fD d)::oN y13.1 2 3 4 5 [.dead]) E E E E E Z (fun hdsn23=>?_) (fun j24 x22 b25 hjsn23 hbsn23 hnsn23=>?_)
 ·have hqsn23:=hdone28 hdsn23
  subst hqsn23
  replace h27:=Kgh h27
  exact gO 18 E<|oSi h27▸Kec hΓ [_,_,_,_,_,_,_] (.inr E) E E E E (.inr ⟨HB.mk E,E⟩)
 obtain⟨s30,h31,houtsn23⟩:=hstep29 j24 x22 b25 hjsn23 hbsn23 hnsn23
 have hssn23:=h31
 refine gO 10 E<|eo_o E (Kio (kv:=kS) (agg:=true) (enc:=Lko) y13.1.there mr15 bs16 cl17 sn23 hjsn23 hbsn23 E E E E (fun _=>E))<|gO 2 E<|Kqb hΓ E E E Z<|gO 1 E<|Kqg hΓ E E E E E E E E Z<|Kdx [bg y13.2,.box 29 (fD d),mObB y13.1.users,mObH y13.1.passes,mObS kS true Lko y13.1.there (rawM kS Lko mr15 bs16 cl17),mObT y13.1.story,bN y13.1 2 3 4 5,.iter 4 cl17 (sn23++[b25]),.box 77 (fM x22.2)] E<|gO 10 E<|jC E h31 (fun h32=>?_) fun h35=>gA 2 E ?_
 ·refine gA 8 E<|Kne (kv:=kS) (agg:=true) (enc:=Lko) (id:=4) y13.1.there (bg y13.2::.box 29 (fD d)::oN y13.1 2 3 4 5 [.iter 4 cl17 (sn23++[b25]),.box 77 (fM x22.2)]) E E Z<|gA 2 E<|bK h32 fun v33 hv33 h34=>?_
  cases h34
  obtain rfl:=houtsn23 _ rfl
  cases h27
  exact gA 3 E<|oSi hv33▸Kec hΓ [_,_,_,_,_,_,_,_] (.inr E) E E E E (.inr ⟨HB.mk E,E⟩)
 cases h35
 exact⟨j24,x22,b25,_,hjsn23,hbsn23,hnsn23,hssn23,⟨⟨E,E,tV⟩,[_],E,.inr ⟨HB.mk E,FB.mk E,Z⟩⟩⟩
theorem Loa{m:Ldl}{r:Ldl}(h:Lgy m=some r):Pure Tryz.prog 140 [.agg (fM m)] (.agg (fM r)):=by
 unfold Lgy at h
 exact Pure.enter (Fr.of 0 _) Tryz.func140 E (Fr.of_ok _) E E<|Kcg<|gA 2 E<|Kqc E E E E Z<|Kqb hΓ E E E Z<|bK h fun y1 hy1 h2=>gO 6 E<|Kdp C (Pure.rows (Lnf hy1) E E) E Z E E E E E<|gO 1 E<|Kqg hΓ E E E E E E E E Z<|Kdx [.box 77 [S m.Node,S m.User,S m.Name,S m.Public,.d (Sl eS y1),I m.Joined,I m.Expires,B m.Approved],.box 77 [S [],S [],S [],S [],.d (Sl eS []),I 0,I 0,B false]] E<|gO 5 E<|Kqg hΓ E E E E E E E E Z<|Kdx [.box 77 [S m.Node,S m.User,S m.Name,S m.Public,.d (Sl eS y1),I m.Joined,I m.Expires,B m.Approved],.box 77 [S m.Node,S m.User,S m.Name,S m.Public,.d (Sl eS y1),I m.Joined,I m.Expires,B m.Approved]] E<|gO 3 E<|oSi h2▸gP E E
theorem Lob{n:Ldn}{r:List Ldl}(h:Lgz n=some r):EC Tryz.prog 137 [.ptr 4 0] (oN n 0 1 2 3 []) fun g hp'=>g=.sl 5 r.length∧hp'=(oN n 0 1 2 3 [rO 77 8 Lko r]):=by
 unfold Lgz at h
 refine Kix (Fr.of 0 _) Tryz.func137 E (Fr.of_ok _) Z fun _=>Kcg<|gA 2 E<|Kdm (t:=0) 77 8 E Z<|gO 4 E<|Kdm (t:=0) 77 8 E Z<|gO 9 E<|Kdo [2] (.fn (.func 305) [] [.ptr 7 0]) (oN n 0 1 2 3 [rO 77 8 Lko ([]:List Ldl),rO 77 8 Lko ([]:List Ldl),.box 203 [.map 2]]) C (EC.mapKeys (o:=mObM n.there) Lox) E Z E E E E E E E E E E<|gK h fun hg2 h1=>Kdo [2,7] (.sl 8 (sortK n.there).length) (oN n 0 1 2 3 [rO 77 8 Lko ([]:List Ldl),rO 77 8 Lko ([]:List Ldl),.box 203 [.map 2],rO 9 1 eS (sortK n.there)]) C (EC.sortedKeys true Lko str9 (Knl hg2) (Knm hg2) Low) E Z E E E E E E E E E E<|Kdv 8 [11] _ (oN n 0 1 2 3 [rO 77 8 Lko ([]:List Ldl),rO 77 8 Lko ([]:List Ldl),.box 203 [.map 2],.dead]) E E E Z<|gO 4 E<|bK h1 fun q6 hq6 h7=>Kcx 11 E fun hb9=>Kgn [(3,.sl 6 q6.length)] (oN n 0 1 2 3 [rO 77 8 Lko ([]:List Ldl),rO 77 8 Lko q6,.box 203 [.map 2],.dead]) ?_ ?_
 ·refine gA 1 E<|Kee (sortK n.there) hq6 (fun i3 s4=>[(0,.ptr 4 0),(3,.sl 6 s4.length),(11,.d (Sl eS (sortK n.there))),(12,I ((sortK n.there).length:Int)),(13,I (i3:Int))]) (fun s4=>(oN n 0 1 2 3 [rO 77 8 Lko ([]:List Ldl),rO 77 8 Lko s4,.box 203 [.map 2],.dead])) ⟨⟨E,E,E,E,E,tV⟩,[],E,.inl E⟩ (fun i3 x5 s4 y13 hx10 hlt hy11=>?_) (?_)
  ·refine gA 6 E<|Kci E (decide_eq_true (Int.ofNat_lt.2 hlt))<|gA 6 E<|eo_o E (Kcy hΓ (enc:=eS) (Kcr hx10) E E E E E (fun _=>E))<|gO 11 E<|eo_o E (Khw hΓ (kv:=kS) (agg:=true) (enc:=Lko) n.there x5 ((⟨[],[],[],[],[],0,0,false⟩:Ldl):Ldl) E E E E Khm E E E E E E E)<|bK hy11 fun y14 hy14 h15=>Kdp C (Loa hy14) E Z E E E E E<|Kdj hΓ (enc:=Lko) [y14] E E E E E E E E E E E E Z<|bK h15 fun y16 hy16 h17=>Kdy hΓ (enc:=Lko) hy16 E E E E E E E E E (fun _=>E) E E E E<|gO 8 E ?_
   cases h17
   exact⟨⟨E,E,E,E,Kbp E (Kbo (nLl hlt hb9)),tV⟩,[],E,.inl E⟩
  exact gA 6 E<|Kcj E (decide_eq_false (Int.lt_irrefl _))<|gA 4 E<|⟨⟨E,tV⟩,[],E,.inl E⟩
 exact gA 8 E<|Kis 5 (oN n 0 1 2 3 [.dead,rO 77 8 Lko q6,.box 203 [.map 2],.dead]) E Z<|Kgl 6 5 (oN n 0 1 2 3 [rO 77 8 Lko q6,.dead,.box 203 [.map 2],.dead]) E E E E E E<|Kgj<|oSi h7▸Kec hΓ [_,_,_] (.inr E) E E E E (.inr ⟨HB.mk E,E⟩)
theorem Loc{u:Str}{x:Str}{x2:Ldn}{x3:Ldl}{r:Bool}(h:Lha u x x2 x3=some r):EC Tryz.prog 237 [S u,.ptr 0 0,.ptr 6 0,.ptr 7 0] (.box 9 [S x]::oN x2 1 2 3 4 [.box 144 [.ptr 5 0],.box 77 (fM x3)]) fun g hp'=>g=B r∧hp'=(.box 9 [S x]::oN x2 1 2 3 4 [.box 144 [.ptr 5 0],.box 77 (fM x3)]):=by
 unfold Lha at h
 refine Kon (Fr.of 0 _) Tryz.func237 E (Fr.of_ok _) Z fun _=>Kcg<|gA 11 E<|bK h fun q1 hq1 h2=>Kcn 5 [(5,B false),(14,B q1)] (.box 9 [S x]::oN x2 1 2 3 4 [.box 144 [.ptr 5 0],.box 77 (fM x3)]) ?_ ?_
 ·refine Kov E E (fun hb=>?_) (fun hb=>?_)
  ·have h3:=cT hq1 hb
   exact bK h3 fun y4 hy4 h5=>gO 3 E<|Kot E<|Kdo [1,2,3,4,5] (B y4) (.box 9 [S x]::oN x2 1 2 3 4 [.box 144 [.ptr 5 0],.box 77 (fM x3)]) C (Lns hy4) E Z E E E E E E E E E E<|gO 2 E<|oSi h5▸⟨⟨E,E,tV⟩,[],E,.inl E⟩
  have h6:=cF hq1 hb
  exact gO 6 E<|oSi h6▸⟨⟨E,E,tV⟩,[],E,.inl E⟩
 exact gO 4 E<|oSi h2▸Kec hΓ [] (.inr E) E E E E (.inl E)
theorem Lod{s:List Str}{f:Str}{f2:Ldn}{f3:Ldl}{r:Int}(h:Lhb s f f2 f3=some r):EC Tryz.prog 246 [.d (Sl eS s),.fn (.func 237) [] [.ptr 0 0,.ptr 6 0,.ptr 7 0]] (.box 9 [S f]::oN f2 1 2 3 4 [.box 144 [.ptr 5 0],.box 77 (fM f3)]) fun g hp'=>g=I r∧hp'=(.box 9 [S f]::oN f2 1 2 3 4 [.box 144 [.ptr 5 0],.box 77 (fM f3)]):=by
 unfold Lhb at h
 refine Kon (Fr.of 0 _) Tryz.func246 E (Fr.of_ok _) Z fun _=>Kcg<|gA 13 E<|bK h fun q4 hq4 h5=>Kcx 0 E fun hb7=>Kgm (R:=fun a6=>q4=.go a6) (fun a6=>[]) (fun a6=>(.box 9 [S f]::oN f2 1 2 3 4 [.box 144 [.ptr 5 0],.box 77 (fM f3)])) ?_ ?_
 ·refine gA 1 E<|Kcw s hq4 (fun i1 s2=>[(0,.d (Sl eS s)),(1,.fn (.func 237) [] [.ptr 0 0,.ptr 6 0,.ptr 7 0]),(7,I (s.length:Int)),(8,I (i1:Int))]) (fun s2=>(.box 9 [S f]::oN f2 1 2 3 4 [.box 144 [.ptr 5 0],.box 77 (fM f3)])) ⟨⟨E,E,E,E,tV⟩,[],E,.inl E⟩ (fun i1 x3 s2 y11 hx8 hlt hy9 hout10=>?_) (fun s2 hgo=>?_)
  ·refine gA 6 E<|Kci E (decide_eq_true (Int.ofNat_lt.2 hlt))<|gA 15 E<|eo_o E (Kcy hΓ (enc:=eS) (Kcr hx8) E E E E E (fun _=>E))<|bK hy9 fun y12 hy12 h13=>gO 1 E<|Kdo [0,1,2,3,4,5,6,7] (B y12) (.box 9 [S f]::oN f2 1 2 3 4 [.box 144 [.ptr 5 0],.box 77 (fM f3)]) C (Loc hy12) E Z E E E E E E E E E E<|gO 2 E<|jC E h13 (fun h14=>?_) fun h17=>gA 7 E ?_
   ·refine gA 9 E<|bK h14 fun v15 hv15 h16=>?_
    cases h16
    obtain rfl:=hout10 _ rfl
    cases h5
    exact gA 4 E<|oSi hv15▸Kec hΓ [] (.inr E) E E E E (.inl E)
   cases h17
   exact⟨_,E,⟨⟨E,E,E,Kbp E (Kbo (nLl hlt hb7)),tV⟩,[],E,.inl E⟩⟩
  subst hgo
  exact gA 6 E<|Kcj E (decide_eq_false (Int.lt_irrefl _))<|gA 4 E<|⟨_,E,⟨tV,[],E,.inl E⟩⟩
 intro a6 ha
 subst ha
 replace h5:=Kgh h5
 exact gA 7 E<|oSi h5▸Kec hΓ [] (.inr E) E E E E (.inl E)
theorem Loe{s:List Str}{f:Str}{f2:Ldn}{f3:Ldl}{r:Bool}(h:Lhc s f f2 f3=some r):EC Tryz.prog 158 [.d (Sl eS s),.fn (.func 237) [] [.ptr 0 0,.ptr 6 0,.ptr 7 0]] (.box 9 [S f]::oN f2 1 2 3 4 [.box 144 [.ptr 5 0],.box 77 (fM f3)]) fun g hp'=>g=B r∧hp'=(.box 9 [S f]::oN f2 1 2 3 4 [.box 144 [.ptr 5 0],.box 77 (fM f3)]):=by
 unfold Lhc at h
 exact Kon (Fr.of 0 _) Tryz.func158 E (Fr.of_ok _) Z fun _=>Kcg<|bK h fun y1 hy1 h2=>gA 9 E<|Kdo [0,1,2,3,4,5,6,7] (I y1) (.box 9 [S f]::oN f2 1 2 3 4 [.box 144 [.ptr 5 0],.box 77 (fM f3)]) C (Lod hy1) E Z E E E E E E E E E E<|gO 5 E<|oSi h2▸Kec hΓ [] (.inr E) E E E E (.inl E)
theorem Lof{k:Nat}{d:Ldg}{l:List Ldh}{user:Str}{moment:Int}{alone:Bool}{al:BagT}{r:(List Str)×Int×BagT}(h:Lhd k d l user moment alone al=some r):EC Tryz.prog 152 [.agg (fD d),.d (Sl Lkk l),S user,I moment,B alone] [bg al] fun g hp'=>g=.tup [.d (Sl eS r.1),I r.2.1]∧hp'=[bg r.2.2]:=by
 unfold Lhd at h
 refine Kon (Fr.of 0 _) Tryz.func152 E (Fr.of_ok _) Z fun _=>Kcg<|gA 2 E<|Kqc E E E E Z<|Kqc E E E E Z<|bK h fun y1 hy1 h2=>gO 9 E<|Kdp C (Lnb hy1) E Z E E E E E<|gO 9 E<|Kch E (fun hb=>?_) (fun hb=>?_)
 ·have h3:=cT h2 hb
  exact gA 9 E<|oSi h3▸Kec hΓ [_,_] (.inr E) E E E E (.inr ⟨HB.mk E,E⟩)
 have h4:=cF h2 hb
 refine bK h4 fun y5 hy5 h6=>gA 8 E<|Kdp C (Lls hy5) E Z E E E E E<|gO 3 E<|Kch E (fun hb=>?_) (fun hb=>?_)
 ·have h7:=cT h6 hb
  exact gA 8 E<|oSi h7▸Kec hΓ [_,_] (.inr E) E E E E (.inr ⟨HB.mk E,E⟩)
 have h8:=cF h6 hb
 refine bK h8 fun y9 hy9 h10=>gA 6 E<|Kdp C (Lmm hy9) E Z E E E E E<|gO 3 E<|Kch E (fun hb=>?_) (fun hb=>?_)
 ·have h11:=cT h10 hb
  exact gA 8 E<|oSi h11▸Kec hΓ [_,_] (.inr E) E E E E (.inr ⟨HB.mk E,E⟩)
 have h12:=cF h10 hb
 refine bK h12 fun y13 hy13 h14=>gA 7 E<|Kdo [0] (.ptr 7 0) (bg y13.2::.box 29 (fD d)::.box 9 [S user]::oN y13.1 3 4 5 6 []) C (Lnv hy13) E Z E E E E E E E E E E<|Kqb hΓ E E E Z<|Kqg hΓ E E E E E E E E Z<|Kdx (bg y13.2::.box 29 (fD d)::.box 9 [S user]::oN y13.1 3 4 5 6 [.box 144 [.ptr 7 0]]) E<|gO 4 E<|Kdm (t:=0) 9 1 E Z<|bK h14 fun y15 hy15 h16=>gO 6 E<|Kdo [3,4,5,6,7] (.sl 10 y15.length) (bg y13.2::.box 29 (fD d)::.box 9 [S user]::oN y13.1 3 4 5 6 [.box 144 [.ptr 7 0],rO 9 1 eS ([]:List Str),rO 77 8 Lko y15]) C (Lob hy15) E Z E E E E E E E E E E<|Kdv 10 [37] _ (bg y13.2::.box 29 (fD d)::.box 9 [S user]::oN y13.1 3 4 5 6 [.box 144 [.ptr 7 0],rO 9 1 eS ([]:List Str),.dead]) E E E Z<|gO 4 E<|bK h16 fun q20 hq20 h21=>Kcx 37 E fun hb23=>Kgn [(14,.sl 9 q20.length)] (bg y13.2::.box 29 (fD d)::.box 9 [S user]::oN y13.1 3 4 5 6 [.box 144 [.ptr 7 0],rO 9 1 eS q20,.dead]) ?_ ?_
 ·refine gA 1 E<|Kee y15 hq20 (fun i17 s18=>[(4,B alone),(5,.ptr 1 0),(7,.ptr 2 0),(13,.ptr 8 0),(14,.sl 9 s18.length),(37,.d (Sl Lko y15)),(38,I (y15.length:Int)),(39,I (i17:Int))]) (fun s18=>(bg y13.2::.box 29 (fD d)::.box 9 [S user]::oN y13.1 3 4 5 6 [.box 144 [.ptr 7 0],rO 9 1 eS s18,.dead])) ⟨⟨E,E,E,E,E,E,E,E,tV⟩,[],E,.inl E⟩ (fun i17 x19 s18 y27 hx24 hlt hy25=>?_) (?_)
  ·refine gA 6 E<|Kci E (decide_eq_true (Int.ofNat_lt.2 hlt))<|gA 6 E<|eo_o E (Kcy hΓ (enc:=Lko) (Kcr hx24) E E E E E (fun _=>E))<|gO 1 E<|Kqb hΓ E E E Z<|Kqg hΓ E E E E E E E E Z<|Kdx (bg y13.2::.box 29 (fD d)::.box 9 [S user]::oN y13.1 3 4 5 6 [.box 144 [.ptr 7 0],rO 9 1 eS s18,.dead,.box 77 (fM x19)]) E<|bK hy25 fun y28 hy28 h29=>gO 7 E<|Kdo [2,3,4,5,6,7,8,11] (B y28) (bg y13.2::.box 29 (fD d)::.box 9 [S user]::oN y13.1 3 4 5 6 [.box 144 [.ptr 7 0],rO 9 1 eS s18,.dead,.box 77 (fM x19)]) C (Loe hy28) E Z E E E E E E E E E E<|bK h29 fun y30 hy30 h31=>gO 8 E<|Kdo [3,4,5,6,7] (B y30) (bg y13.2::.box 29 (fD d)::.box 9 [S user]::oN y13.1 3 4 5 6 [.box 144 [.ptr 7 0],rO 9 1 eS s18,.dead,.box 77 (fM x19)]) C (Lns hy30) E Z E E E E E E E E E E<|gO 1 E<|Kcn 6 [(4,B alone),(5,.ptr 1 0),(7,.ptr 2 0),(13,.ptr 8 0),(14,.sl 9 s18.length),(16,.ptr 11 0),(37,.d (Sl Lko y15)),(38,I (y15.length:Int)),(39,I (i17:Int)),(57,B (y30&&(!(alone&&y28))))] (bg y13.2::.box 29 (fD d)::.box 9 [S user]::oN y13.1 3 4 5 6 [.box 144 [.ptr 7 0],rO 9 1 eS s18,.dead,.box 77 (fM x19)]) ?_ ?_
   ·refine Kov E E (fun hb=>?_) (fun hb=>?_)
    ·refine gO 2 E<|Kcn 2 [(4,B alone),(5,.ptr 1 0),(7,.ptr 2 0),(13,.ptr 8 0),(14,.sl 9 s18.length),(16,.ptr 11 0),(37,.d (Sl Lko y15)),(38,I (y15.length:Int)),(39,I (i17:Int)),(51,B true),(55,B (alone&&y28))] (bg y13.2::.box 29 (fD d)::.box 9 [S user]::oN y13.1 3 4 5 6 [.box 144 [.ptr 7 0],rO 9 1 eS s18,.dead,.box 77 (fM x19)]) ?_ ?_
     ·refine Kov E E (fun hb=>?_) (fun hb=>?_)
      ·exact gO 3 E<|⟨⟨E,E,E,E,E,E,E,E,E,E,Kbq E (Keh hb),tV⟩,[],E,.inl E⟩
      exact gO 3 E<|⟨⟨E,E,E,E,E,E,E,E,E,E,Kbq E (Kei hb),tV⟩,[],E,.inl E⟩
     exact gO 3 E<|⟨⟨E,E,E,E,E,E,E,E,E,Kbq E (Keh hb),tV⟩,[],E,.inl E⟩
    exact gO 7 E<|⟨⟨E,E,E,E,E,E,E,E,E,Kbq E (Kei hb),tV⟩,[],E,.inl E⟩
   refine gO 2 E<|jC E h31 (fun h32=>?_) fun h35=>gA 7 E ?_
   ·refine gA 4 E<|Kdj hΓ (enc:=eS) [x19.Node] E E E E E E E E E E E E Z<|bK h32 fun y33 hy33 h34=>Kdy hΓ (enc:=eS) hy33 E E E E E E E E E (fun _=>E) E E E E<|gO 8 E ?_
    cases h34
    exact⟨⟨E,E,E,E,E,E,E,Kbp E (Kbo (nLl hlt hb23)),tV⟩,[_],E,.inr ⟨HB.mk E,FB.mk E,Z⟩⟩
   cases h35
   exact⟨⟨E,E,E,E,E,E,E,Kbp E (Kbo (nLl hlt hb23)),tV⟩,[_],E,.inr ⟨HB.mk E,FB.mk E,Z⟩⟩
  exact gA 6 E<|Kcj E (decide_eq_false (Int.lt_irrefl _))<|gA 4 E<|⟨⟨E,tV⟩,[],E,.inl E⟩
 exact gA 5 E<|Kdv 9 [10,14,64] _ (bg y13.2::.box 29 (fD d)::.box 9 [S user]::oN y13.1 3 4 5 6 [.box 144 [.ptr 7 0],.dead,.dead]) E E E Z<|gO 4 E<|oSi h21▸Kec hΓ [_,_,_,_,_,_,_,_,_,_] (.inr E) E E E E (.inr ⟨HB.mk E,E⟩)
theorem Log{k:Nat}{d:Ldg}{l:List Ldh}{user:Str}{moment:Int}{al:BagT}{r:(List Str)×Int×BagT}(h:Lhe k d l user moment al=some r):EC Tryz.prog 57 [.agg (fD d),.d (Sl Lkk l),S user,I moment] [bg al] fun g hp'=>g=.tup [.d (Sl eS r.1),I r.2.1]∧hp'=[bg r.2.2]:=by
 unfold Lhe at h
 exact Kon (Fr.of 0 _) Tryz.func57 E (Fr.of_ok _) Z fun _=>Kcg<|gA 2 E<|Kqc E E E E Z<|bK h fun y1 hy1 h2=>gO 10 E<|Kdo [0] (.tup [.d (Sl eS y1.1),I y1.2.1]) [bg y1.2.2,.box 29 (fD d)] C (Lof hy1) E Z E E E E E E E E E E<|gO 7 E<|oSi h2▸Kec hΓ [_] (.inr E) E E E E (.inr ⟨HB.mk E,E⟩)
theorem Loh{k:Nat}{d:Ldg}{l:List Ldh}{user:Str}{moment:Int}{al:BagT}{r:(List Str)×Int×BagT}(h:Lhf k d l user moment al=some r):EC Tryz.prog 58 [.agg (fD d),.d (Sl Lkk l),S user,I moment] [bg al] fun g hp'=>g=.tup [.d (Sl eS r.1),I r.2.1]∧hp'=[bg r.2.2]:=by
 unfold Lhf at h
 exact Kon (Fr.of 0 _) Tryz.func58 E (Fr.of_ok _) Z fun _=>Kcg<|gA 2 E<|Kqc E E E E Z<|bK h fun y1 hy1 h2=>gO 10 E<|Kdo [0] (.tup [.d (Sl eS y1.1),I y1.2.1]) [bg y1.2.2,.box 29 (fD d)] C (Lof hy1) E Z E E E E E E E E E E<|gO 7 E<|oSi h2▸Kec hΓ [_] (.inr E) E E E E (.inr ⟨HB.mk E,E⟩)
end Go.Proofs.YtjmlnnanfkiakaaGreatDoor
