import Derived.Test.YtjmlnnanfkiakaaGreatDoorXFM
import Derived.Test.YtjmlnnanfkiakaaGreatDoorGt
import Derived.Test.YtjmlnnanfkiakaaGreatDoorStrS
import Derived.Test.YtjmlnnanfkiakaaGreatDoorXFW1
set_option linter.unusedVariables false
set_option linter.unusedSimpArgs false
set_option maxRecDepth 100000
namespace Go.Proofs.YtjmlnnanfkiakaaGreatDoor
open Go.Gk
theorem Kip {k:Nat} {s:Str} {empty:Bool} {r:Int} (h:Kdg k s empty=some r):Pure Tryz.prog 270 [S s,B empty] (I r):=by
 refine Pure.enter (Fr.of 0 _) Tryz.func270 rfl (Fr.of_ok _) rfl rfl ?_
 refine go_in ?_
 unfold Kdg at h
 obtain ⟨y1,hy1,h2⟩:=bi_ok h
 refine go hΓ 9 rfl ?_
 refine eo_callP (callable Tryz.func107 rfl rfl) (Kii hy1) rfl (nBe rfl) rfl rfl rfl rfl rfl ?_
 refine go_ops hΓ 2 rfl ?_
 refine o_cut 7 [(15,B ((!y1)&&(!(empty&&((s:Str)==[])))))] [] ?_ ?_
 ·refine eo_gsplit rfl rfl (fun hb=>?_) (fun hb=>?_)
  ·refine go_ops hΓ 2 rfl ?_
   refine o_cut 3 [(8,B true),(13,B (empty&&((s:Str)==[])))] [] ?_ ?_
   ·refine eo_gsplit rfl rfl (fun hb=>?_) (fun hb=>?_)
    ·refine go_ops hΓ 4 rfl ?_
     exact ⟨⟨rfl,get_b rfl (and_t hb),trivial⟩,[],rfl,.inl rfl⟩
    ·refine go_ops hΓ 4 rfl ?_
     exact ⟨⟨rfl,get_b rfl (and_f hb),trivial⟩,[],rfl,.inl rfl⟩
   ·refine go_ops hΓ 3 rfl ?_
    exact ⟨⟨get_b rfl (and_t hb),trivial⟩,[],rfl,.inl rfl⟩
  ·refine go_ops hΓ 8 rfl ?_
   exact ⟨⟨get_b rfl (and_f hb),trivial⟩,[],rfl,.inl rfl⟩
 ·refine go_ops hΓ 2 rfl ?_
  refine j_cond rfl (fun hb=>?_) (fun hb=>?_)
  ·have h3:=cT h2 hb
   refine go hΓ 7 rfl ?_
   obtain rfl:=oSi h3
   exact fin_pure hΓ (.inr rfl) rfl rfl
  ·have h4:=cF h2 hb
   refine go hΓ 8 rfl ?_
   obtain rfl:=oSi h4
   exact fin_pure hΓ (.inr rfl) rfl rfl
theorem Kiq {s:Str} {r:Bool} (h:Kdh s=some r):Pure Tryz.prog 151 [S s] (B r):=by
 refine Pure.enter (Fr.of 0 _) Tryz.func151 rfl (Fr.of_ok _) rfl rfl ?_
 refine go_in ?_
 unfold Kdh at h
 refine go hΓ 10 rfl ?_
 refine o_cut 4 [(0,S s),(2,B false),(9,B ((!((s:Str)==[]))&&(decide (((s.length:Int):Int)≤20))))] [] ?_ ?_
 ·refine eo_gsplit rfl rfl (fun hb=>?_) (fun hb=>?_)
  ·refine go_ops hΓ 5 rfl ?_
   exact ⟨⟨rfl,rfl,get_b rfl (and_t hb),trivial⟩,[],rfl,.inl rfl⟩
  ·refine go_ops hΓ 5 rfl ?_
   exact ⟨⟨rfl,rfl,get_b rfl (and_f hb),trivial⟩,[],rfl,.inl rfl⟩
 ·refine go_ops hΓ 1 rfl ?_
  obtain ⟨q1,hq1,h2⟩:=bi_ok h
  refine o_cut 4 [(2,B false),(14,B q1)] [] ?_ ?_
  ·refine eo_gsplit rfl rfl (fun hb=>?_) (fun hb=>?_)
   ·have h3:=cT hq1 hb
    obtain ⟨y4,hy4,h5⟩:=bi_ok h3
    refine go_ops hΓ 1 rfl ?_
    refine eo_guard rfl ?_
    refine eo_callP (callable Tryz.func153 rfl rfl) (Kas hy4) rfl (nBe rfl) rfl rfl rfl rfl rfl ?_
    refine go_ops hΓ 3 rfl ?_
    obtain rfl:=oSi h5
    exact ⟨⟨rfl,rfl,trivial⟩,[],rfl,.inl rfl⟩
   ·have h6:=cF hq1 hb
    refine go_ops hΓ 5 rfl ?_
    obtain rfl:=oSi h6
    exact ⟨⟨rfl,rfl,trivial⟩,[],rfl,.inl rfl⟩
  ·refine go_ops hΓ 4 rfl ?_
   obtain rfl:=oSi h2
   exact fin_pure hΓ (.inr rfl) rfl rfl
theorem Kir {k:Nat} {l:List Str} {r:Int} (h:Kdi k l=some r):Pure Tryz.prog 271 [.d (Sl eS l)] (I r):=by
 refine Pure.enter (Fr.of 0 _) Tryz.func271 rfl (Fr.of_ok _) rfl rfl ?_
 refine go_in ?_
 unfold Kdi at h
 refine go hΓ 13 rfl ?_
 refine j_cond rfl (fun hb=>?_) (fun hb=>?_)
 ·have h1:=cT h hb
  refine go hΓ 7 rfl ?_
  obtain rfl:=oSi h1
  exact fin_pure hΓ (.inr rfl) rfl rfl
 ·have h2:=cF h hb
  obtain ⟨y3,hy3,h4⟩:=bi_ok h2
  refine go hΓ 5 rfl ?_
  refine eo_callP (callable Tryz.func106 rfl rfl) (Kij hy3) rfl (nBe rfl) rfl rfl rfl rfl rfl ?_
  refine go_ops hΓ 4 rfl ?_
  obtain rfl:=oSi h4
  exact fin_pure hΓ (.inr rfl) rfl rfl
theorem Kis {n:Int} {r:Int} (h:Kdj n=some r):Pure Tryz.prog 272 [I n] (I r):=by
 refine Pure.enter (Fr.of 0 _) Tryz.func272 rfl (Fr.of_ok _) rfl rfl ?_
 refine go_in ?_
 unfold Kdj at h
 obtain ⟨y1,hy1,h2⟩:=bi_ok h
 refine go hΓ 9 rfl ?_
 refine eo_callP (callable Tryz.func108 rfl rfl) (Kik hy1) rfl (nBe rfl) rfl rfl rfl rfl rfl ?_
 refine go_ops hΓ 2 rfl ?_
 refine j_cond rfl (fun hb=>?_) (fun hb=>?_)
 ·have h3:=cT h2 hb
  refine go hΓ 7 rfl ?_
  obtain rfl:=oSi h3
  exact fin_pure hΓ (.inr rfl) rfl rfl
 ·have h4:=cF h2 hb
  refine go hΓ 8 rfl ?_
  obtain rfl:=oSi h4
  exact fin_pure hΓ (.inr rfl) rfl rfl
set_option maxHeartbeats 8000000 in
theorem Kit {k:Nat} {s:Kbb} {field:Int} {r:Int} (h:Kdk k s field=some r):Pure Tryz.prog 193 [.agg (fS s),I field] (I r):=by
 refine Pure.enter (Fr.of 0 _) Tryz.func193 rfl (Fr.of_ok _) rfl rfl ?_
 refine go_in ?_
 unfold Kdk at h
 refine go hΓ 2 rfl ?_
 refine eo_box rfl rfl rfl rfl (nBe rfl) ?_
 obtain ⟨q1,hq1,h2⟩:=bi_ok h
 refine go_ops hΓ 17 rfl ?_
 refine j_cutSZ (q:=q1) (fun a3=>[]) (fun a3=>[.box 37 (fS s)]) ?_ ?_
 ·refine go hΓ 7 rfl ?_
  refine j_cond rfl (fun hb=>?_) (fun hb=>?_)
  ·have h4:=cT hq1 hb
   obtain ⟨y5,hy5,h6⟩:=bi_ok h4
   refine go hΓ 5 rfl ?_
   refine eo_callP (callable Tryz.func270 rfl rfl) (Kip hy5) rfl (nBe rfl) rfl rfl rfl rfl rfl ?_
   refine go_ops hΓ 5 rfl ?_
   obtain ⟨v7,hv7,h8⟩:=bi_ok h6
   obtain rfl:=oSi h8
   obtain rfl:=oSi h2
   refine go hΓ 2 rfl ?_
   obtain rfl:=oSi hv7
   exact fin_pure hΓ (.inr rfl) rfl rfl
  ·have h9:=cF hq1 hb
   refine go hΓ 6 rfl ?_
   refine j_cond rfl (fun hb=>?_) (fun hb=>?_)
   ·have h10:=cT h9 hb
    obtain ⟨y11,hy11,h12⟩:=bi_ok h10
    refine go hΓ 4 rfl ?_
    refine eo_callP (callable Tryz.func270 rfl rfl) (Kip hy11) rfl (nBe rfl) rfl rfl rfl rfl rfl ?_
    refine go_ops hΓ 5 rfl ?_
    obtain ⟨v13,hv13,h14⟩:=bi_ok h12
    obtain rfl:=oSi h14
    obtain rfl:=oSi h2
    refine go hΓ 2 rfl ?_
    obtain rfl:=oSi hv13
    exact fin_pure hΓ (.inr rfl) rfl rfl
   ·have h15:=cF h9 hb
    refine go hΓ 6 rfl ?_
    refine j_cond rfl (fun hb=>?_) (fun hb=>?_)
    ·have h16:=cT h15 hb
     obtain ⟨y17,hy17,h18⟩:=bi_ok h16
     refine go hΓ 5 rfl ?_
     refine eo_callP (callable Tryz.func270 rfl rfl) (Kip hy17) rfl (nBe rfl) rfl rfl rfl rfl rfl ?_
     refine go_ops hΓ 5 rfl ?_
     obtain ⟨v19,hv19,h20⟩:=bi_ok h18
     obtain rfl:=oSi h20
     obtain rfl:=oSi h2
     refine go hΓ 2 rfl ?_
     obtain rfl:=oSi hv19
     exact fin_pure hΓ (.inr rfl) rfl rfl
    ·have h21:=cF h15 hb
     refine go hΓ 6 rfl ?_
     refine j_cond rfl (fun hb=>?_) (fun hb=>?_)
     ·have h22:=cT h21 hb
      obtain ⟨y23,hy23,h24⟩:=bi_ok h22
      refine go hΓ 4 rfl ?_
      refine eo_callP (callable Tryz.func151 rfl rfl) (Kiq hy23) rfl (nBe rfl) rfl rfl rfl rfl rfl ?_
      refine go_ops hΓ 3 rfl ?_
      refine j_cond rfl (fun hb=>?_) (fun hb=>?_)
      ·have h25:=cT h24 hb
       refine go hΓ 7 rfl ?_
       obtain ⟨v26,hv26,h27⟩:=bi_ok h25
       obtain rfl:=oSi h27
       obtain rfl:=oSi h2
       refine go hΓ 2 rfl ?_
       obtain rfl:=oSi hv26
       exact fin_pure hΓ (.inr rfl) rfl rfl
      ·have h28:=cF h24 hb
       refine go hΓ 2 rfl ?_
       obtain rfl:=oSi h28
       exact ⟨_,rfl,⟨trivial,[],rfl,.inl rfl⟩⟩
     ·have h29:=cF h21 hb
      refine go hΓ 6 rfl ?_
      refine j_cond rfl (fun hb=>?_) (fun hb=>?_)
      ·have h30:=cT h29 hb
       obtain ⟨y31,hy31,h32⟩:=bi_ok h30
       refine go hΓ 4 rfl ?_
       refine eo_callP (callable Tryz.func270 rfl rfl) (Kip hy31) rfl (nBe rfl) rfl rfl rfl rfl rfl ?_
       refine go_ops hΓ 5 rfl ?_
       obtain ⟨v33,hv33,h34⟩:=bi_ok h32
       obtain rfl:=oSi h34
       obtain rfl:=oSi h2
       refine go hΓ 2 rfl ?_
       obtain rfl:=oSi hv33
       exact fin_pure hΓ (.inr rfl) rfl rfl
      ·have h35:=cF h29 hb
       refine go hΓ 6 rfl ?_
       refine j_cond rfl (fun hb=>?_) (fun hb=>?_)
       ·have h36:=cT h35 hb
        obtain ⟨y37,hy37,h38⟩:=bi_ok h36
        refine go hΓ 4 rfl ?_
        refine eo_callP (callable Tryz.func271 rfl rfl) (Kir hy37) rfl (nBe rfl) rfl rfl rfl rfl rfl ?_
        refine go_ops hΓ 5 rfl ?_
        obtain ⟨v39,hv39,h40⟩:=bi_ok h38
        obtain rfl:=oSi h40
        obtain rfl:=oSi h2
        refine go hΓ 2 rfl ?_
        obtain rfl:=oSi hv39
        exact fin_pure hΓ (.inr rfl) rfl rfl
       ·have h41:=cF h35 hb
        refine go hΓ 6 rfl ?_
        refine j_cond rfl (fun hb=>?_) (fun hb=>?_)
        ·have h42:=cT h41 hb
         obtain ⟨y43,hy43,h44⟩:=bi_ok h42
         refine go hΓ 4 rfl ?_
         refine eo_callP (callable Tryz.func272 rfl rfl) (Kis hy43) rfl (nBe rfl) rfl rfl rfl rfl rfl ?_
         refine go_ops hΓ 5 rfl ?_
         obtain ⟨v45,hv45,h46⟩:=bi_ok h44
         obtain rfl:=oSi h46
         obtain rfl:=oSi h2
         refine go hΓ 2 rfl ?_
         obtain rfl:=oSi hv45
         exact fin_pure hΓ (.inr rfl) rfl rfl
        ·have h47:=cF h41 hb
         refine go hΓ 6 rfl ?_
         refine j_cond rfl (fun hb=>?_) (fun hb=>?_)
         ·have h48:=cT h47 hb
          obtain ⟨y49,hy49,h50⟩:=bi_ok h48
          refine go hΓ 4 rfl ?_
          refine eo_callP (callable Tryz.func272 rfl rfl) (Kis hy49) rfl (nBe rfl) rfl rfl rfl rfl rfl ?_
          refine go_ops hΓ 5 rfl ?_
          obtain ⟨v51,hv51,h52⟩:=bi_ok h50
          obtain rfl:=oSi h52
          obtain rfl:=oSi h2
          refine go hΓ 2 rfl ?_
          obtain rfl:=oSi hv51
          exact fin_pure hΓ (.inr rfl) rfl rfl
         ·have h53:=cF h47 hb
          refine go hΓ 2 rfl ?_
          obtain rfl:=oSi h53
          exact ⟨_,rfl,⟨trivial,[],rfl,.inl rfl⟩⟩
 ·intro a3 ha
  subst ha
  replace h2:=orI_l h2
  refine go hΓ 7 rfl ?_
  obtain rfl:=oSi h2
  exact fin_pure hΓ (.inr rfl) rfl rfl
theorem Kiu {s:List Int} {v:Int} {r:Int} (h:Kdl s v=some r):Pure Tryz.prog 273 [.d (Sl (eN .i64) s),I v] (I r):=by
 refine Pure.enter (Fr.of 0 _) Tryz.func273 rfl (Fr.of_ok _) rfl rfl ?_
 refine go_in ?_
 unfold Kdl at h
 refine go hΓ 13 rfl ?_
 obtain ⟨q4,hq4,h5⟩:=bi_ok h
 refine j_bound 0 rfl fun hb7=>?_
 refine j_cutEZ (R:=fun a6=>q4=.go a6) (fun a6=>[]) (fun a6=>[]) ?_ ?_
 ·refine go hΓ 1 rfl ?_
  refine j_range s hq4 (fun i1 s2=>[(0,.d (Sl (eN .i64) s)),(1,I v),(7,I (s.length:Int)),(8,I (i1:Int))]) (fun s2=>[]) ⟨⟨rfl,rfl,rfl,rfl,trivial⟩,[],rfl,.inl rfl⟩ (fun i1 x3 s2 y11 hx8 hlt hy9 hout10=>?_) (fun s2 hgo=>?_)
  ·refine go hΓ 6 rfl ?_
   refine j_condT rfl (decide_eq_true (Int.ofNat_lt.2 hlt)) ?_
   refine go hΓ 15 rfl ?_
   refine eo_o rfl (op_elemZ hΓ (enc:=(eN .i64)) (getZ_nat hx8) rfl rfl rfl rfl rfl (fun _=>rfl)) ?_
   refine go_ops hΓ 4 rfl ?_
   refine j_cond rfl (fun hb=>?_) (fun hb=>?_)
   ·have h12:=cT hy9 hb
    refine go hΓ 9 rfl ?_
    obtain ⟨v13,hv13,h14⟩:=bi_ok h12
    obtain rfl:=oSi h14
    obtain rfl:=hout10 _ rfl
    obtain rfl:=oSi h5
    refine go hΓ 4 rfl ?_
    obtain rfl:=oSi hv13
    exact fin_pure hΓ (.inr rfl) rfl rfl
   ·have h15:=cF hy9 hb
    refine go hΓ 7 rfl ?_
    obtain rfl:=oSi h15
    exact ⟨_,rfl,⟨⟨rfl,rfl,rfl,get_eq rfl (w64_succ (Nat.lt_of_lt_of_le hlt hb7)),trivial⟩,[],rfl,.inl rfl⟩⟩
  ·subst hgo
   refine go hΓ 6 rfl ?_
   refine j_condF rfl (decide_eq_false (Int.lt_irrefl _)) ?_
   refine go hΓ 4 rfl ?_
   exact ⟨_,rfl,⟨trivial,[],rfl,.inl rfl⟩⟩
 ·intro a6 ha
  subst ha
  replace h5:=goI_l h5
  refine go hΓ 7 rfl ?_
  obtain rfl:=oSi h5
  exact fin_pure hΓ (.inr rfl) rfl rfl
theorem Kiv {s:List Int} {v:Int} {r:Bool} (h:Kdm s v=some r):Pure Tryz.prog 194 [.d (Sl (eN .i64) s),I v] (B r):=by
 refine Pure.enter (Fr.of 0 _) Tryz.func194 rfl (Fr.of_ok _) rfl rfl ?_
 refine go_in ?_
 unfold Kdm at h
 obtain ⟨y1,hy1,h2⟩:=bi_ok h
 refine go hΓ 9 rfl ?_
 refine eo_callP (callable Tryz.func273 rfl rfl) (Kiu hy1) rfl (nBe rfl) rfl rfl rfl rfl rfl ?_
 refine go_ops hΓ 5 rfl ?_
 obtain rfl:=oSi h2
 exact fin_pure hΓ (.inr rfl) rfl rfl
set_option maxHeartbeats 8000000 in
theorem Kiw {s:Kbb} {field:Int} {r:Bool} (h:Kdn s field=some r):Pure Tryz.prog 195 [.agg (fS s),I field] (B r):=by
 refine Pure.enter (Fr.of 0 _) Tryz.func195 rfl (Fr.of_ok _) rfl rfl ?_
 refine go_in ?_
 unfold Kdn at h
 refine go hΓ 2 rfl ?_
 refine eo_box rfl rfl rfl rfl (nBe rfl) ?_
 refine go_ops hΓ 16 rfl ?_
 refine j_cond rfl (fun hb=>?_) (fun hb=>?_)
 ·have h1:=cT h hb
  refine go hΓ 11 rfl ?_
  obtain rfl:=oSi h1
  exact fin_pure hΓ (.inr rfl) rfl rfl
 ·have h2:=cF h hb
  refine go hΓ 6 rfl ?_
  refine j_cond rfl (fun hb=>?_) (fun hb=>?_)
  ·have h3:=cT h2 hb
   refine go hΓ 11 rfl ?_
   obtain rfl:=oSi h3
   exact fin_pure hΓ (.inr rfl) rfl rfl
  ·have h4:=cF h2 hb
   refine go hΓ 6 rfl ?_
   refine j_cond rfl (fun hb=>?_) (fun hb=>?_)
   ·have h5:=cT h4 hb
    refine go hΓ 11 rfl ?_
    obtain rfl:=oSi h5
    exact fin_pure hΓ (.inr rfl) rfl rfl
   ·have h6:=cF h4 hb
    refine go hΓ 6 rfl ?_
    refine j_cond rfl (fun hb=>?_) (fun hb=>?_)
    ·have h7:=cT h6 hb
     refine go hΓ 11 rfl ?_
     obtain rfl:=oSi h7
     exact fin_pure hΓ (.inr rfl) rfl rfl
    ·have h8:=cF h6 hb
     refine go hΓ 6 rfl ?_
     refine j_cond rfl (fun hb=>?_) (fun hb=>?_)
     ·have h9:=cT h8 hb
      refine go hΓ 11 rfl ?_
      obtain rfl:=oSi h9
      exact fin_pure hΓ (.inr rfl) rfl rfl
     ·have h10:=cF h8 hb
      refine go hΓ 6 rfl ?_
      refine j_cond rfl (fun hb=>?_) (fun hb=>?_)
      ·have h11:=cT h10 hb
       refine go hΓ 12 rfl ?_
       obtain rfl:=oSi h11
       exact fin_pure hΓ (.inr rfl) rfl rfl
      ·have h12:=cF h10 hb
       refine go hΓ 6 rfl ?_
       refine j_cond rfl (fun hb=>?_) (fun hb=>?_)
       ·have h13:=cT h12 hb
        refine go hΓ 11 rfl ?_
        obtain rfl:=oSi h13
        exact fin_pure hΓ (.inr rfl) rfl rfl
       ·have h14:=cF h12 hb
        refine go hΓ 6 rfl ?_
        refine j_cond rfl (fun hb=>?_) (fun hb=>?_)
        ·have h15:=cT h14 hb
         refine go hΓ 11 rfl ?_
         obtain rfl:=oSi h15
         exact fin_pure hΓ (.inr rfl) rfl rfl
        ·have h16:=cF h14 hb
         refine go hΓ 12 rfl ?_
         obtain rfl:=oSi h16
         exact fin_pure hΓ (.inr rfl) rfl rfl
set_option maxHeartbeats 8000000 in
theorem Kix {k:Nat} {s:Kbb} {r:Int} (h:Kdo k s=some r):Pure Tryz.prog 88 [.agg (fS s)] (I r):=by
 refine Pure.enter (Fr.of 0 _) Tryz.func88 rfl (Fr.of_ok _) rfl rfl ?_
 refine go_in ?_
 unfold Kdo at h
 refine go hΓ 2 rfl ?_
 refine eo_box rfl rfl rfl rfl (nBe rfl) ?_
 obtain ⟨y1,hy1,h2⟩:=bi_ok h
 refine go_ops hΓ 9 rfl ?_
 refine eo_callP (callable Tryz.func138 rfl rfl) (Kim hy1) rfl (nBe rfl) rfl rfl rfl rfl rfl ?_
 refine go_ops hΓ 4 rfl ?_
 refine j_cond rfl (fun hb=>?_) (fun hb=>?_)
 ·have h3:=cT h2 hb
  refine go hΓ 8 rfl ?_
  obtain rfl:=oSi h3
  exact fin_pure hΓ (.inr rfl) rfl rfl
 ·have h4:=cF h2 hb
  obtain ⟨y5,hy5,h6⟩:=bi_ok h4
  refine go hΓ 4 rfl ?_
  refine eo_callP (callable Tryz.func107 rfl rfl) (Kii hy5) rfl (nBe rfl) rfl rfl rfl rfl rfl ?_
  refine go_ops hΓ 4 rfl ?_
  refine j_cond rfl (fun hb=>?_) (fun hb=>?_)
  ·have h7:=cT h6 hb
   refine go hΓ 8 rfl ?_
   obtain rfl:=oSi h7
   exact fin_pure hΓ (.inr rfl) rfl rfl
  ·have h8:=cF h6 hb
   obtain ⟨y9,hy9,h10⟩:=bi_ok h8
   refine go hΓ 4 rfl ?_
   refine eo_callP (callable Tryz.func108 rfl rfl) (Kik hy9) rfl (nBe rfl) rfl rfl rfl rfl rfl ?_
   refine go_ops hΓ 3 rfl ?_
   refine j_cond rfl (fun hb=>?_) (fun hb=>?_)
   ·have h11:=cT h10 hb
    refine go hΓ 8 rfl ?_
    obtain rfl:=oSi h11
    exact fin_pure hΓ (.inr rfl) rfl rfl
   ·have h12:=cF h10 hb
    obtain ⟨y13,hy13,h14⟩:=bi_ok h12
    refine go hΓ 4 rfl ?_
    refine eo_callP (callable Tryz.func108 rfl rfl) (Kik hy13) rfl (nBe rfl) rfl rfl rfl rfl rfl ?_
    refine go_ops hΓ 3 rfl ?_
    refine j_cond rfl (fun hb=>?_) (fun hb=>?_)
    ·have h15:=cT h14 hb
     refine go hΓ 8 rfl ?_
     obtain rfl:=oSi h15
     exact fin_pure hΓ (.inr rfl) rfl rfl
    ·have h16:=cF h14 hb
     obtain ⟨y17,hy17,h18⟩:=bi_ok h16
     refine go hΓ 7 rfl ?_
     refine eo_callP (callable Tryz.func120 rfl rfl) (Kio hy17) rfl (nBe rfl) rfl rfl rfl rfl rfl ?_
     refine go_ops hΓ 11 rfl ?_
     obtain ⟨q22,hq22,h23⟩:=bi_ok h18
     refine j_bound 3 rfl fun hb25=>?_
     refine j_cutEZ (R:=fun a24=>q22=.go a24) (fun a24=>[(1,.ptr 0 0),(3,.d (Sl (eN .i64) y17))]) (fun a24=>[.box 37 (fS s)]) ?_ ?_
     ·refine go hΓ 1 rfl ?_
      refine j_range y17 hq22 (fun i19 s20=>[(1,.ptr 0 0),(3,.d (Sl (eN .i64) y17)),(29,.d (Sl (eN .i64) y17)),(30,I (y17.length:Int)),(31,I (i19:Int))]) (fun s20=>[.box 37 (fS s)]) ⟨⟨rfl,rfl,rfl,rfl,rfl,trivial⟩,[],rfl,.inl rfl⟩ (fun i19 x21 s20 y29 hx26 hlt hy27 hout28=>?_) (fun s20 hgo=>?_)
      ·refine go hΓ 6 rfl ?_
       refine j_condT rfl (decide_eq_true (Int.ofNat_lt.2 hlt)) ?_
       refine go hΓ 6 rfl ?_
       refine eo_o rfl (op_elemZ hΓ (enc:=(eN .i64)) (getZ_nat hx26) rfl rfl rfl rfl rfl (fun _=>rfl)) ?_
       obtain ⟨y30,hy30,h31⟩:=bi_ok hy27
       refine go_ops hΓ 8 rfl ?_
       refine eo_callP (callable Tryz.func193 rfl rfl) (Kit hy30) rfl (nBe rfl) rfl rfl rfl rfl rfl ?_
       refine go_ops hΓ 9 rfl ?_
       refine j_cond rfl (fun hb=>?_) (fun hb=>?_)
       ·have h32:=cT h31 hb
        refine go hΓ 9 rfl ?_
        obtain ⟨v33,hv33,h34⟩:=bi_ok h32
        obtain rfl:=oSi h34
        obtain rfl:=hout28 _ rfl
        obtain rfl:=oSi h23
        refine go hΓ 4 rfl ?_
        obtain rfl:=oSi hv33
        exact fin_pure hΓ (.inr rfl) rfl rfl
       ·have h35:=cF h31 hb
        refine go hΓ 7 rfl ?_
        obtain rfl:=oSi h35
        exact ⟨_,rfl,⟨⟨rfl,rfl,rfl,rfl,get_eq rfl (w64_succ (Nat.lt_of_lt_of_le hlt hb25)),trivial⟩,[],rfl,.inl rfl⟩⟩
      ·subst hgo
       refine go hΓ 6 rfl ?_
       refine j_condF rfl (decide_eq_false (Int.lt_irrefl _)) ?_
       refine go hΓ 4 rfl ?_
       exact ⟨_,rfl,⟨⟨rfl,rfl,trivial⟩,[],rfl,.inl rfl⟩⟩
     ·intro a24 ha
      subst ha
      replace h23:=goI_l h23
      refine go hΓ 7 rfl ?_
      obtain ⟨q39,hq39,h40⟩:=bi_ok h23
      refine j_cutEZ (R:=fun a41=>q39=.inl a41) (fun a41=>[]) (fun a41=>[.box 37 (fS s)]) ?_ ?_
      ·refine go hΓ 1 rfl ?_
       refine j_loop hq39 (fun s37=>[(1,.ptr 0 0),(3,.d (Sl (eN .i64) y17)),(42,I s37)]) (fun s37=>[.box 37 (fS s)]) ⟨⟨rfl,rfl,rfl,trivial⟩,[],rfl,.inl rfl⟩ (fun s37 y45 hy43 hout44=>?_)
       refine go hΓ 6 rfl ?_
       refine j_cond rfl (fun hb=>?_) (fun hb=>?_)
       ·have h46:=cT hy43 hb
        obtain ⟨y47,hy47,h48⟩:=bi_ok h46
        refine go hΓ 14 rfl ?_
        refine eo_callP (callable Tryz.func194 rfl rfl) (Kiv hy47) rfl (nBe rfl) rfl rfl rfl rfl rfl ?_
        refine go_ops hΓ 2 rfl ?_
        obtain ⟨q49,hq49,h50⟩:=bi_ok h48
        refine o_cut 5 [(1,.ptr 0 0),(3,.d (Sl (eN .i64) y17)),(42,I s37),(54,B q49)] [.box 37 (fS s)] ?_ ?_
        ·refine eo_gsplit rfl rfl (fun hb=>?_) (fun hb=>?_)
         ·have h51:=cT hq49 hb
          obtain ⟨y52,hy52,h53⟩:=bi_ok h51
          refine go_ops hΓ 2 rfl ?_
          refine eo_guard rfl ?_
          refine eo_callP (callable Tryz.func195 rfl rfl) (Kiw hy52) rfl (nBe rfl) rfl rfl rfl rfl rfl ?_
          refine go_ops hΓ 3 rfl ?_
          obtain rfl:=oSi h53
          exact ⟨⟨rfl,rfl,rfl,rfl,trivial⟩,[],rfl,.inl rfl⟩
         ·have h54:=cF hq49 hb
          refine go_ops hΓ 6 rfl ?_
          obtain rfl:=oSi h54
          exact ⟨⟨rfl,rfl,rfl,rfl,trivial⟩,[],rfl,.inl rfl⟩
        ·refine go_ops hΓ 2 rfl ?_
         refine j_cond rfl (fun hb=>?_) (fun hb=>?_)
         ·have h55:=cT h50 hb
          refine go hΓ 8 rfl ?_
          obtain ⟨v56,hv56,h57⟩:=bi_ok h55
          obtain rfl:=oSi h57
          obtain rfl:=hout44 _ rfl
          obtain rfl:=oSi h40
          refine go hΓ 4 rfl ?_
          obtain rfl:=oSi hv56
          exact fin_pure hΓ (.inr rfl) rfl rfl
         ·have h58:=cF h50 hb
          refine go hΓ 7 rfl ?_
          obtain rfl:=oSi h58
          exact ⟨_,rfl,⟨⟨rfl,rfl,rfl,trivial⟩,[],rfl,.inl rfl⟩⟩
       ·have h59:=cF hy43 hb
        refine go hΓ 4 rfl ?_
        obtain rfl:=oSi h59
        obtain rfl:=hout44 _ rfl
        exact ⟨_,rfl,⟨trivial,[],rfl,.inl rfl⟩⟩
      ·intro a41 ha
       subst ha
       replace h40:=orI_l h40
       refine go hΓ 7 rfl ?_
       obtain rfl:=oSi h40
       exact fin_pure hΓ (.inr rfl) rfl rfl
theorem Kiy {a:Kbb} {b:Kbb} {r:Int} (h:Kdp a b=some r):Pure Tryz.prog 89 [.agg (fS a),.agg (fS b)] (I r):=by
 refine Pure.enter (Fr.of 0 _) Tryz.func89 rfl (Fr.of_ok _) rfl rfl ?_
 refine go_in ?_
 unfold Kdp at h
 refine go hΓ 2 rfl ?_
 refine eo_box rfl rfl rfl rfl (nBe rfl) ?_
 refine eo_box rfl rfl rfl rfl (nBe rfl) ?_
 refine go_ops hΓ 4 rfl ?_
 refine j_draw hmix (by kernel_rfl) ?_
 obtain ⟨y1,hy1,h2⟩:=bi_ok h
 refine go hΓ 4 rfl ?_
 refine gl_callP (callable Tryz.func167 rfl rfl) (Khh hy1) rfl rfl rfl rfl rfl rfl ?_
 obtain ⟨y3,hy3,h4⟩:=bi_ok h2
 refine go_draw hΓ 4 rfl ?_
 refine gl_callP (callable Tryz.func147 rfl rfl) (Kat hy3) rfl rfl rfl rfl rfl rfl ?_
 obtain ⟨y5,hy5,h6⟩:=bi_ok h4
 refine go_draw hΓ 4 rfl ?_
 refine gl_callP (callable Tryz.func167 rfl rfl) (Khh hy5) rfl rfl rfl rfl rfl rfl ?_
 refine gl_litT hΓ (enc:=(eN .i64)) [y1,y3,y5] rfl rfl rfl rfl rfl rfl rfl rfl rfl rfl rfl rfl ?_
 obtain ⟨y7,hy7,h8⟩:=bi_ok h6
 refine gl_callP (callable Tryz.func196 rfl rfl) (Khi hy7) rfl rfl rfl rfl rfl rfl ?_
 refine go_draw hΓ 4 rfl ?_
 obtain rfl:=oSi h8
 exact fin_pure hΓ (.inr rfl) rfl rfl
theorem Kiz {s:Kbb} {r:Kbd} (h:Kdq s=some r):Pure Tryz.prog 92 [.agg (fS s)] (.agg [S r.server,I r.no]):=by
 refine Pure.enter (Fr.of 0 _) Tryz.func92 rfl (Fr.of_ok _) rfl rfl ?_
 refine go_in ?_
 unfold Kdq at h
 refine go hΓ 2 rfl ?_
 refine eo_box rfl rfl rfl rfl (nBe rfl) ?_
 refine eo_alloc hΓ rfl rfl rfl (nBe rfl) ?_
 refine go_ops hΓ 8 rfl ?_
 refine eo_build hΓ (gs:=[S s.Server,I s.No]) rfl rfl rfl rfl rfl rfl rfl ?_
 refine eo_store hΓ rfl rfl rfl rfl rfl rfl rfl rfl (nBe rfl) ?_
 refine eo_hp [.box 37 (fS s),.box 150 [S s.Server,I s.No]] rfl ?_
 refine go_ops hΓ 3 rfl ?_
 obtain rfl:=oSi h
 exact fin_pure hΓ (.inr rfl) rfl rfl
set_option maxHeartbeats 8000000 in
theorem Kja {k:Nat} {l:List Kbb} {r:Int} (h:Kdr k l=some r):Pure Tryz.prog 33 [.d (Sl Kgl l)] (I r):=by
 refine Pure.enter (Fr.of 0 _) Tryz.func33 rfl (Fr.of_ok _) rfl rfl ?_
 refine go_in ?_
 unfold Kdr at h
 refine go hΓ 13 rfl ?_
 refine j_cond rfl (fun hb=>?_) (fun hb=>?_)
 ·have h1:=cT h hb
  refine go hΓ 7 rfl ?_
  obtain rfl:=oSi h1
  exact fin_pure hΓ (.inr rfl) rfl rfl
 ·have h2:=cF h hb
  refine go hΓ 4 rfl ?_
  refine eo_s (nBe rfl) (nblt.1 rfl) (ops_makeMap false) ?_
  refine eo_hp [mOb (kD Kgn) false eB ([]:List (Kbd×Bool))] rfl ?_
  refine go_ops hΓ 11 rfl ?_
  obtain ⟨q6,hq6,h7⟩:=bi_ok h2
  refine j_bound 0 rfl fun hb9=>?_
  refine j_cutEZ (R:=fun a8=>q6=.go a8) (fun a8=>[]) (fun a8=>[mOb (kD Kgn) false eB a8]) ?_ ?_
  ·refine go hΓ 1 rfl ?_
   refine j_range l hq6 (fun i3 s4=>[(0,.d (Sl Kgl l)),(3,.map 0),(11,.d (Sl Kgl l)),(12,I (l.length:Int)),(13,I (i3:Int))]) (fun s4=>[mOb (kD Kgn) false eB s4]) ⟨⟨rfl,rfl,rfl,rfl,rfl,trivial⟩,[],rfl,.inl rfl⟩ (fun i3 x5 s4 y13 hx10 hlt hy11 hout12=>?_) (fun s4 hgo=>?_)
   ·refine go hΓ 6 rfl ?_
    refine j_condT rfl (decide_eq_true (Int.ofNat_lt.2 hlt)) ?_
    refine go hΓ 7 rfl ?_
    refine eo_o rfl (op_elemZ hΓ (enc:=Kgl) (getZ_nat hx10) rfl rfl rfl rfl rfl (fun _=>rfl)) ?_
    refine go_ops hΓ 1 rfl ?_
    refine eo_alloc hΓ rfl rfl rfl (nBe rfl) ?_
    refine go_ops hΓ 1 rfl ?_
    refine eo_store hΓ rfl rfl rfl rfl rfl rfl rfl rfl (nBe rfl) ?_
    refine eo_hp [mOb (kD Kgn) false eB s4,.box 37 (fS x5)] rfl ?_
    obtain ⟨y14,hy14,h15⟩:=bi_ok hy11
    refine go_ops hΓ 6 rfl ?_
    refine eo_callP (callable Tryz.func88 rfl rfl) (Kix hy14) rfl (nBe rfl) rfl rfl rfl rfl rfl ?_
    refine go_ops hΓ 9 rfl ?_
    refine j_cond rfl (fun hb=>?_) (fun hb=>?_)
    ·have h16:=cT h15 hb
     refine go hΓ 10 rfl ?_
     obtain ⟨v17,hv17,h18⟩:=bi_ok h16
     obtain rfl:=oSi h18
     obtain rfl:=hout12 _ rfl
     obtain rfl:=oSi h7
     refine go hΓ 4 rfl ?_
     obtain rfl:=oSi hv17
     exact fin_pure hΓ (.inr rfl) rfl rfl
    ·have h19:=cF h15 hb
     obtain ⟨q20,hq20,h21⟩:=bi_ok h19
     refine go hΓ 4 rfl ?_
     refine j_cutNZ [(0,.d (Sl Kgl l)),(3,.map 0),(5,.ptr 1 0),(11,.d (Sl Kgl l)),(12,I (l.length:Int)),(13,I (i3:Int)),(34,B q20)] [mOb (kD Kgn) false eB s4,.box 37 (fS x5)] ?_ ?_
     ·refine j_draw hmix (by kernel_rfl) ?_
      refine go hΓ 3 rfl ?_
      refine gl_gsplit rfl rfl (fun hb=>?_) (fun hb=>?_)
      ·have h22:=cT hq20 hb
       obtain ⟨x23,hx23,h24⟩:=bi_ok h22
       refine go_draw hΓ 3 rfl ?_
       refine gl_og rfl rfl (op_elemZ hΓ (enc:=Kgl) hx23 rfl rfl rfl rfl rfl (fun _=>rfl)) ?_
       obtain ⟨y25,hy25,h26⟩:=bi_ok h24
       refine go_draw hΓ 2 rfl ?_
       refine gl_callPg (callable Tryz.func89 rfl rfl) (Kiy hy25) rfl rfl rfl rfl rfl rfl rfl ?_
       refine go_draw hΓ 3 rfl ?_
       obtain rfl:=oSi h26
       exact ⟨⟨rfl,rfl,rfl,rfl,rfl,rfl,rfl,trivial⟩,[],rfl,.inl rfl⟩
      ·have h27:=cF hq20 hb
       refine go_draw hΓ 10 rfl ?_
       obtain rfl:=oSi h27
       exact ⟨⟨rfl,rfl,rfl,rfl,rfl,rfl,rfl,trivial⟩,[],rfl,.inl rfl⟩
     ·refine go hΓ 1 rfl ?_
      refine j_cond rfl (fun hb=>?_) (fun hb=>?_)
      ·have h28:=cT h21 hb
       refine go hΓ 9 rfl ?_
       obtain ⟨v29,hv29,h30⟩:=bi_ok h28
       obtain rfl:=oSi h30
       obtain rfl:=hout12 _ rfl
       obtain rfl:=oSi h7
       refine go hΓ 4 rfl ?_
       obtain rfl:=oSi hv29
       exact fin_pure hΓ (.inr rfl) rfl rfl
      ·have h31:=cF h21 hb
       obtain ⟨y32,hy32,h33⟩:=bi_ok h31
       refine go hΓ 7 rfl ?_
       refine eo_callP (callable Tryz.func92 rfl rfl) (Kiz hy32) rfl (nBe rfl) rfl rfl rfl rfl rfl ?_
       refine eo_o rfl (op_lookupS hΓ (kenc:=Kgn) (agg:=false) (enc:=eB) s4 y32 (false:Bool) rfl rfl rfl ks_node_origin (fun _=>rfl) rfl rfl rfl rfl rfl rfl rfl) ?_
       refine go_ops hΓ 2 rfl ?_
       refine j_cond rfl (fun hb=>?_) (fun hb=>?_)
       ·have h34:=cT h33 hb
        refine go hΓ 9 rfl ?_
        obtain ⟨v35,hv35,h36⟩:=bi_ok h34
        obtain rfl:=oSi h36
        obtain rfl:=hout12 _ rfl
        obtain rfl:=oSi h7
        refine go hΓ 4 rfl ?_
        obtain rfl:=oSi hv35
        exact fin_pure hΓ (.inr rfl) rfl rfl
       ·have h37:=cF h33 hb
        obtain ⟨y38,hy38,h39⟩:=bi_ok h37
        refine go hΓ 5 rfl ?_
        refine eo_callP (callable Tryz.func92 rfl rfl) (Kiz hy38) rfl (nBe rfl) rfl rfl rfl rfl rfl ?_
        refine eo_u (nBe rfl) (opu_mapUpdateS hΓ (kenc:=Kgn) (agg:=false) (enc:=eB) (id:=0) s4 y38 true rfl rfl ks_node_origin (fun _=>rfl) rfl rfl rfl rfl rfl) ?_
        refine eo_hp [mOb (kD Kgn) false eB (mSet s4 y38 true),.box 37 (fS x5)] rfl ?_
        refine go_ops hΓ 7 rfl ?_
        obtain rfl:=oSi h39
        exact ⟨_,rfl,⟨⟨rfl,rfl,rfl,rfl,get_eq rfl (w64_succ (Nat.lt_of_lt_of_le hlt hb9)),trivial⟩,[_],rfl,.inr ⟨HB.mk rfl,FB.mk rfl,(nBe rfl)⟩⟩⟩
   ·subst hgo
    refine go hΓ 6 rfl ?_
    refine j_condF rfl (decide_eq_false (Int.lt_irrefl _)) ?_
    refine go hΓ 4 rfl ?_
    exact ⟨_,rfl,⟨trivial,[],rfl,.inl rfl⟩⟩
  ·intro a8 ha
   subst ha
   replace h7:=goI_l h7
   refine go hΓ 7 rfl ?_
   obtain rfl:=oSi h7
   exact fin_pure hΓ (.inr rfl) rfl rfl
theorem Kjb {k:Nat} {d:Kba} {l:List Kbb} {r:Int} (h:Kds k d l=some r):Pure Tryz.prog 85 [.agg (fD d),.d (Sl Kgl l)] (I r):=by
 refine Pure.enter (Fr.of 0 _) Tryz.func85 rfl (Fr.of_ok _) rfl rfl ?_
 refine go_in ?_
 unfold Kds at h
 refine go hΓ 2 rfl ?_
 refine eo_box rfl rfl rfl rfl (nBe rfl) ?_
 obtain ⟨y1,hy1,h2⟩:=bi_ok h
 refine go_ops hΓ 7 rfl ?_
 refine eo_callP (callable Tryz.func29 rfl rfl) (Kil hy1) rfl (nBe rfl) rfl rfl rfl rfl rfl ?_
 refine go_ops hΓ 9 rfl ?_
 refine j_cond rfl (fun hb=>?_) (fun hb=>?_)
 ·have h3:=cT h2 hb
  refine go hΓ 8 rfl ?_
  obtain rfl:=oSi h3
  exact fin_pure hΓ (.inr rfl) rfl rfl
 ·have h4:=cF h2 hb
  obtain ⟨y5,hy5,h6⟩:=bi_ok h4
  refine go hΓ 5 rfl ?_
  refine eo_callP (callable Tryz.func33 rfl rfl) (Kja hy5) rfl (nBe rfl) rfl rfl rfl rfl rfl ?_
  refine go_ops hΓ 4 rfl ?_
  obtain rfl:=oSi h6
  exact fin_pure hΓ (.inr rfl) rfl rfl
theorem Kjc {d:Kba} {r:Kbg} (h:Kdt d=some r):EC Tryz.prog 86 [.agg (fD d)] [] fun g hp'=>g=.ptr 4 0∧hp'=[mOb kS false eB r.users,mOb kS false (eH (some 0)) r.passes,mOb kS true Kgo r.there,mOb kS false (eT 233 11 Kgp) r.story,.box 206 [.d (Sl eS r.d.Users),.d (Sl Kgj r.d.Owners),I r.d.Life,B r.d.Approve,.map 0,.map 1,.map 2,.map 3]]:=by
 refine ec_enterC (Fr.of 0 _) Tryz.func86 rfl (Fr.of_ok _) (nBe rfl) fun _=>?_
 refine go_in ?_
 unfold Kdt at h
 refine go hΓ 2 rfl ?_
 refine eo_box rfl rfl rfl rfl (nBe rfl) ?_
 refine go_ops hΓ 6 rfl ?_
 refine eo_s (nBe rfl) (nblt.1 rfl) (ops_makeMap false) ?_
 refine eo_hp [.box 29 (fD d),mOb kS false eB ([]:List (Str×Bool))] rfl ?_
 refine eo_s (nBe rfl) (nblt.1 rfl) (ops_makeMap false) ?_
 refine eo_hp [.box 29 (fD d),mOb kS false eB ([]:List (Str×Bool)),mOb kS false (eH (some 0)) ([]:List (Str×Nat))] rfl ?_
 refine eo_s (nBe rfl) (nblt.1 rfl) (ops_makeMap true) ?_
 refine eo_hp [.box 29 (fD d),mOb kS false eB ([]:List (Str×Bool)),mOb kS false (eH (some 0)) ([]:List (Str×Nat)),mOb kS true Kgo ([]:List (Str×Kbe))] rfl ?_
 refine eo_s (nBe rfl) (nblt.1 rfl) (ops_makeMap false) ?_
 refine eo_hp [.box 29 (fD d),mOb kS false eB ([]:List (Str×Bool)),mOb kS false (eH (some 0)) ([]:List (Str×Nat)),mOb kS true Kgo ([]:List (Str×Kbe)),mOb kS false (eT 233 11 Kgp) ([]:List (Str×(Tl Kbf)))] rfl ?_
 refine eo_build hΓ (gs:=[.d (Sl eS d.Users),.d (Sl Kgj d.Owners),I d.Life,B d.Approve,.map 1,.map 2,.map 3,.map 4]) rfl rfl rfl rfl rfl rfl rfl ?_
 refine eo_box rfl rfl rfl rfl (nBe rfl) ?_
 refine go_ops hΓ 12 rfl ?_
 obtain ⟨q4,hq4,h5⟩:=bi_ok h
 refine j_bound 14 rfl fun hb7=>?_
 refine j_cutNZ [(3,.ptr 5 0)] [.box 29 (fD d),mOb kS false eB q4,mOb kS false (eH (some 0)) ([]:List (Str×Nat)),mOb kS true Kgo ([]:List (Str×Kbe)),mOb kS false (eT 233 11 Kgp) ([]:List (Str×(Tl Kbf))),.box 206 [.d (Sl eS d.Users),.d (Sl Kgj d.Owners),I d.Life,B d.Approve,.map 1,.map 2,.map 3,.map 4]] ?_ ?_
 ·refine go hΓ 1 rfl ?_
  refine j_rangeF d.Users hq4 (fun i1 s2=>[(3,.ptr 5 0),(14,.d (Sl eS d.Users)),(15,I (d.Users.length:Int)),(16,I (i1:Int))]) (fun s2=>[.box 29 (fD d),mOb kS false eB s2,mOb kS false (eH (some 0)) ([]:List (Str×Nat)),mOb kS true Kgo ([]:List (Str×Kbe)),mOb kS false (eT 233 11 Kgp) ([]:List (Str×(Tl Kbf))),.box 206 [.d (Sl eS d.Users),.d (Sl Kgj d.Owners),I d.Life,B d.Approve,.map 1,.map 2,.map 3,.map 4]]) ⟨⟨rfl,rfl,rfl,rfl,trivial⟩,[],rfl,.inl rfl⟩ (fun i1 x3 s2 y11 hx8 hlt hy9=>?_) (?_)
  ·refine go hΓ 6 rfl ?_
   refine j_condT rfl (decide_eq_true (Int.ofNat_lt.2 hlt)) ?_
   refine go hΓ 6 rfl ?_
   refine eo_o rfl (op_elemZ hΓ (enc:=eS) (getZ_nat hx8) rfl rfl rfl rfl rfl (fun _=>rfl)) ?_
   refine go_ops hΓ 10 rfl ?_
   refine eo_u (nBe rfl) (opu_mapUpdate hΓ (kv:=kS) (agg:=false) (enc:=eB) (id:=1) s2 x3 true rfl rfl rfl key_str rfl rfl rfl rfl rfl) ?_
   refine eo_hp [.box 29 (fD d),mOb kS false eB (mSet s2 x3 true),mOb kS false (eH (some 0)) ([]:List (Str×Nat)),mOb kS true Kgo ([]:List (Str×Kbe)),mOb kS false (eT 233 11 Kgp) ([]:List (Str×(Tl Kbf))),.box 206 [.d (Sl eS d.Users),.d (Sl Kgj d.Owners),I d.Life,B d.Approve,.map 1,.map 2,.map 3,.map 4]] rfl ?_
   refine go_ops hΓ 7 rfl ?_
   obtain rfl:=oSi hy9
   exact ⟨⟨rfl,rfl,rfl,get_eq rfl (w64_succ (Nat.lt_of_lt_of_le hlt hb7)),trivial⟩,[],rfl,.inl rfl⟩
  ·refine go hΓ 6 rfl ?_
   refine j_condF rfl (decide_eq_false (Int.lt_irrefl _)) ?_
   refine go hΓ 4 rfl ?_
   exact ⟨⟨rfl,trivial⟩,[],rfl,.inl rfl⟩
 ·refine go hΓ 8 rfl ?_
  refine cv_kill 0 [.dead,mOb kS false eB q4,mOb kS false (eH (some 0)) ([]:List (Str×Nat)),mOb kS true Kgo ([]:List (Str×Kbe)),mOb kS false (eT 233 11 Kgp) ([]:List (Str×(Tl Kbf))),.box 206 [.d (Sl eS d.Users),.d (Sl Kgj d.Owners),I d.Life,B d.Approve,.map 1,.map 2,.map 3,.map 4]] rfl (nBe rfl) ?_
  refine cv_move 1 0 [mOb kS false eB q4,.dead,mOb kS false (eH (some 0)) ([]:List (Str×Nat)),mOb kS true Kgo ([]:List (Str×Kbe)),mOb kS false (eT 233 11 Kgp) ([]:List (Str×(Tl Kbf))),.box 206 [.d (Sl eS d.Users),.d (Sl Kgj d.Owners),I d.Life,B d.Approve,.map 0,.map 2,.map 3,.map 4]] rfl rfl rfl rfl rfl rfl ?_
  refine cv_move 2 1 [mOb kS false eB q4,mOb kS false (eH (some 0)) ([]:List (Str×Nat)),.dead,mOb kS true Kgo ([]:List (Str×Kbe)),mOb kS false (eT 233 11 Kgp) ([]:List (Str×(Tl Kbf))),.box 206 [.d (Sl eS d.Users),.d (Sl Kgj d.Owners),I d.Life,B d.Approve,.map 0,.map 1,.map 3,.map 4]] rfl rfl rfl rfl rfl rfl ?_
  refine cv_move 3 2 [mOb kS false eB q4,mOb kS false (eH (some 0)) ([]:List (Str×Nat)),mOb kS true Kgo ([]:List (Str×Kbe)),.dead,mOb kS false (eT 233 11 Kgp) ([]:List (Str×(Tl Kbf))),.box 206 [.d (Sl eS d.Users),.d (Sl Kgj d.Owners),I d.Life,B d.Approve,.map 0,.map 1,.map 2,.map 4]] rfl rfl rfl rfl rfl rfl ?_
  refine cv_move 4 3 [mOb kS false eB q4,mOb kS false (eH (some 0)) ([]:List (Str×Nat)),mOb kS true Kgo ([]:List (Str×Kbe)),mOb kS false (eT 233 11 Kgp) ([]:List (Str×(Tl Kbf))),.dead,.box 206 [.d (Sl eS d.Users),.d (Sl Kgj d.Owners),I d.Life,B d.Approve,.map 0,.map 1,.map 2,.map 3]] rfl rfl rfl rfl rfl rfl ?_
  refine cv_move 5 4 [mOb kS false eB q4,mOb kS false (eH (some 0)) ([]:List (Str×Nat)),mOb kS true Kgo ([]:List (Str×Kbe)),mOb kS false (eT 233 11 Kgp) ([]:List (Str×(Tl Kbf))),.box 206 [.d (Sl eS d.Users),.d (Sl Kgj d.Owners),I d.Life,B d.Approve,.map 0,.map 1,.map 2,.map 3],.dead] rfl rfl rfl rfl rfl rfl ?_
  refine cv_here ?_
  obtain rfl:=oSi h5
  exact fin_objs hΓ [_] (.inr rfl) rfl rfl rfl rfl (.inr ⟨HB.mk rfl,rfl⟩)
set_option maxHeartbeats 8000000 in
theorem Kjd {p:Nat} {v_at:Int} {al:BagT} {r:Int} (h:Kdu p v_at al=some r):EC Tryz.prog 264 [.d (.hd (some 0) p),I v_at] [bg al] fun g hp'=>g=I r∧hp'=[bg al]:=by
 refine ec_enter (Fr.of 0 _) Tryz.func264 rfl (Fr.of_ok _) (nBe rfl) fun _=>?_
 refine go_in ?_
 unfold Kdu at h
 refine go hΓ 10 rfl ?_
 refine eo_o rfl ((op_isNilP hΓ rfl rfl rfl rfl).1) ?_
 refine go_ops hΓ 3 rfl ?_
 refine j_cond rfl (fun hb=>?_) (fun hb=>?_)
 ·have h1:=cT h hb
  refine go hΓ 8 rfl ?_
  obtain rfl:=oSi h1
  exact fin_objs hΓ [] (.inr rfl) rfl rfl rfl rfl (.inl rfl)
 ·have h2:=cF h hb
  obtain ⟨hg4,h3⟩:=gd_ok h2
  refine go hΓ 3 rfl ?_
  refine eo_o rfl (op_nilCheckH hg4 rfl) ?_
  refine eo_o rfl (op_fieldAddrH hΓ hg4 rfl rfl rfl rfl rfl rfl) ?_
  obtain ⟨m5,hm5,h6⟩:=bi_ok h3
  refine eo_o rfl (op_loadH hΓ (enc:=Kgs) (bg:=0) m5 rfl rfl (ArU.l _ (arU_here (fun _ _=>rfl) hm5 m5)) rfl (g:=B m5.revoked) rfl rfl) ?_
  refine go_ops hΓ 1 rfl ?_
  obtain ⟨q7,hq7,h8⟩:=bi_ok h6
  refine o_cut 8 [(0,.d (.hd (some 0) p)),(21,B q7)] [bg al] ?_ ?_
  ·refine eo_gsplit rfl rfl (fun hb=>?_) (fun hb=>?_)
   ·have h9:=cT hq7 hb
    refine go_ops hΓ 9 rfl ?_
    obtain rfl:=oSi h9
    exact ⟨⟨rfl,rfl,trivial⟩,[],rfl,.inl rfl⟩
   ·have h10:=cF hq7 hb
    obtain ⟨hg12,h11⟩:=gd_ok h10
    refine go_ops hΓ 2 rfl ?_
    refine eo_guard rfl ?_
    refine eo_o rfl (op_nilCheckH hg12 rfl) ?_
    refine eo_guard rfl ?_
    refine eo_o rfl (op_fieldAddrH hΓ hg12 rfl rfl rfl rfl rfl rfl) ?_
    refine eo_guard rfl ?_
    refine eo_o rfl (op_fieldAddrH hΓ hg12 rfl rfl rfl rfl rfl rfl) ?_
    obtain ⟨m13,hm13,h14⟩:=bi_ok h11
    refine eo_guard rfl ?_
    refine eo_o rfl (op_loadH hΓ (enc:=Kgs) (bg:=0) m13 rfl rfl (ArU.l _ (arU_here (fun _ _=>rfl) hm13 m13)) rfl (g:=I m13.Join.Until) rfl rfl) ?_
    refine go_ops hΓ 3 rfl ?_
    obtain rfl:=oSi h14
    exact ⟨⟨rfl,rfl,trivial⟩,[],rfl,.inl rfl⟩
  ·refine go_ops hΓ 3 rfl ?_
   refine j_cond rfl (fun hb=>?_) (fun hb=>?_)
   ·have h15:=cT h8 hb
    refine go hΓ 8 rfl ?_
    obtain rfl:=oSi h15
    exact fin_objs hΓ [] (.inr rfl) rfl rfl rfl rfl (.inl rfl)
   ·have h16:=cF h8 hb
    refine go hΓ 1 rfl ?_
    refine j_draw hmix (by kernel_rfl) ?_
    obtain ⟨hg18,h17⟩:=gd_ok h16
    refine go hΓ 1 rfl ?_
    refine gl_o rfl (op_nilCheckH hg18 rfl) ?_
    refine gl_o rfl (op_fieldAddrH hΓ hg18 rfl rfl rfl rfl rfl rfl) ?_
    obtain ⟨m19,hm19,h20⟩:=bi_ok h17
    refine gl_o rfl (op_loadH hΓ (enc:=Kgs) (bg:=0) m19 rfl rfl (ArU.l _ (arU_here (fun _ _=>rfl) hm19 m19)) rfl (g:=I m19.used) rfl rfl) ?_
    obtain ⟨hg22,h21⟩:=gd_ok h20
    refine go_draw hΓ 1 rfl ?_
    refine gl_o rfl (op_nilCheckH hg22 rfl) ?_
    refine gl_o rfl (op_fieldAddrH hΓ hg22 rfl rfl rfl rfl rfl rfl) ?_
    refine gl_o rfl (op_fieldAddrH hΓ hg22 rfl rfl rfl rfl rfl rfl) ?_
    obtain ⟨m23,hm23,h24⟩:=bi_ok h21
    refine gl_o rfl (op_loadH hΓ (enc:=Kgs) (bg:=0) m23 rfl rfl (ArU.l _ (arU_here (fun _ _=>rfl) hm23 m23)) rfl (g:=I m23.Join.Left) rfl rfl) ?_
    refine go_draw hΓ 4 rfl ?_
    refine j_cond rfl (fun hb=>?_) (fun hb=>?_)
    ·have h25:=cT h24 hb
     refine go hΓ 8 rfl ?_
     obtain rfl:=oSi h25
     exact fin_objs hΓ [] (.inr rfl) rfl rfl rfl rfl (.inl rfl)
    ·have h26:=cF h24 hb
     refine go hΓ 9 rfl ?_
     obtain rfl:=oSi h26
     exact fin_objs hΓ [] (.inr rfl) rfl rfl rfl rfl (.inl rfl)
theorem Kje {n:Kbg} {v_public:Str} {r:Bool} (h:Kdv n v_public=some r):EC Tryz.prog 265 [.ptr 4 0,S v_public] [mOb kS false eB n.users,mOb kS false (eH (some 0)) n.passes,mOb kS true Kgo n.there,mOb kS false (eT 233 11 Kgp) n.story,.box 206 [.d (Sl eS n.d.Users),.d (Sl Kgj n.d.Owners),I n.d.Life,B n.d.Approve,.map 0,.map 1,.map 2,.map 3]] fun g hp'=>g=B r∧hp'=[mOb kS false eB n.users,mOb kS false (eH (some 0)) n.passes,mOb kS true Kgo n.there,mOb kS false (eT 233 11 Kgp) n.story,.box 206 [.d (Sl eS n.d.Users),.d (Sl Kgj n.d.Owners),I n.d.Life,B n.d.Approve,.map 0,.map 1,.map 2,.map 3]]:=by
 refine ec_enter (Fr.of 0 _) Tryz.func265 rfl (Fr.of_ok _) (nBe rfl) fun _=>?_
 refine go_in ?_
 unfold Kdv at h
 refine go hΓ 12 rfl ?_
 refine eo_range hΓ (kv:=kS) (agg:=true) (enc:=Kgo) n.there rfl rfl rfl rfl rfl (nBe rfl) (fun mr1 bs2 cl3 hpm4 hbl5 hbn6=>?_)
 refine eo_hp [mOb kS false eB n.users,mOb kS false (eH (some 0)) n.passes,mObS kS true Kgo n.there (rawM kS Kgo mr1 bs2 cl3),mOb kS false (eT 233 11 Kgp) n.story,.box 206 [.d (Sl eS n.d.Users),.d (Sl Kgj n.d.Owners),I n.d.Life,B n.d.Approve,.map 0,.map 1,.map 2,.map 3],.iter 2 cl3 []] rfl ?_
 refine go_ops hΓ 2 rfl ?_
 obtain ⟨q12,hq12,h13⟩:=bi_ok h
 refine go hΓ 1 rfl ?_
 refine j_rangePM hq12 hpm4 hbl5 hbn6 (fun s7=>[(1,S v_public),(11,.ptr 5 0)]) (fun sn9 s7=>[mOb kS false eB n.users,mOb kS false (eH (some 0)) n.passes,mObS kS true Kgo n.there (rawM kS Kgo mr1 bs2 cl3),mOb kS false (eT 233 11 Kgp) n.story,.box 206 [.d (Sl eS n.d.Users),.d (Sl Kgj n.d.Owners),I n.d.Life,B n.d.Approve,.map 0,.map 1,.map 2,.map 3],.iter 2 cl3 sn9]) ⟨⟨rfl,rfl,trivial⟩,[],rfl,.inl rfl⟩ (fun sn9 s7 hdone14 hstep15=>?_)
 refine go hΓ 2 rfl ?_
 refine eo_next (kv:=kS) (agg:=true) (enc:=Kgo) n.there mr1 bs2 cl3 sn9 [mOb kS false eB n.users,mOb kS false (eH (some 0)) n.passes,mOb kS true Kgo n.there,mOb kS false (eT 233 11 Kgp) n.story,.box 206 [.d (Sl eS n.d.Users),.d (Sl Kgj n.d.Owners),I n.d.Life,B n.d.Approve,.map 0,.map 1,.map 2,.map 3],.dead] rfl rfl rfl rfl rfl (nBe rfl) (fun hdsn9=>?_) (fun j10 x8 b11 hjsn9 hbsn9 hnsn9=>?_)
 ·have hqsn9:=hdone14 hdsn9
  subst hqsn9
  replace h13:=goI_l h13
  refine go_ops hΓ 16 rfl ?_
  obtain rfl:=oSi h13
  exact fin_objs hΓ [_] (.inr rfl) rfl rfl rfl rfl (.inr ⟨HB.mk rfl,rfl⟩)
 ·obtain ⟨s16,h17,houtsn9⟩:=hstep15 j10 x8 b11 hjsn9 hbsn9 hnsn9
  have hssn9:=h17
  refine go_ops hΓ 10 rfl ?_
  refine eo_o rfl (op_entry (kv:=kS) (agg:=true) (enc:=Kgo) n.there mr1 bs2 cl3 sn9 hjsn9 hbsn9 rfl rfl rfl rfl (fun _=>rfl)) ?_
  refine go_ops hΓ 1 rfl ?_
  refine eo_alloc hΓ rfl rfl rfl (nBe rfl) ?_
  refine eo_store hΓ rfl rfl rfl rfl rfl rfl rfl rfl (nBe rfl) ?_
  refine eo_hp [mOb kS false eB n.users,mOb kS false (eH (some 0)) n.passes,mObS kS true Kgo n.there (rawM kS Kgo mr1 bs2 cl3),mOb kS false (eT 233 11 Kgp) n.story,.box 206 [.d (Sl eS n.d.Users),.d (Sl Kgj n.d.Owners),I n.d.Life,B n.d.Approve,.map 0,.map 1,.map 2,.map 3],.iter 2 cl3 (sn9++[b11]),.box 77 [S x8.2.Node,S x8.2.User,S x8.2.Name,S x8.2.Public,.d (Sl eS x8.2.Tags),I x8.2.Joined,I x8.2.Expires,B x8.2.Approved]] rfl ?_
  refine go_ops hΓ 10 rfl ?_
  refine j_cond rfl (fun hb=>?_) (fun hb=>?_)
  ·have h18:=cT h17 hb
   refine go hΓ 5 rfl ?_
   refine j_unraw (kv:=kS) (agg:=true) (enc:=Kgo) (id:=2) n.there [mOb kS false eB n.users,mOb kS false (eH (some 0)) n.passes,mOb kS true Kgo n.there,mOb kS false (eT 233 11 Kgp) n.story,.box 206 [.d (Sl eS n.d.Users),.d (Sl Kgj n.d.Owners),I n.d.Life,B n.d.Approve,.map 0,.map 1,.map 2,.map 3],.iter 2 cl3 (sn9++[b11]),.box 77 [S x8.2.Node,S x8.2.User,S x8.2.Name,S x8.2.Public,.d (Sl eS x8.2.Tags),I x8.2.Joined,I x8.2.Expires,B x8.2.Approved]] rfl rfl (nBe rfl) ?_
   refine go hΓ 2 rfl ?_
   obtain ⟨v19,hv19,h20⟩:=bi_ok h18
   obtain rfl:=oSi h20
   obtain rfl:=houtsn9 _ rfl
   obtain rfl:=oSi h13
   refine go hΓ 3 rfl ?_
   obtain rfl:=oSi hv19
   exact fin_objs hΓ [_,_] (.inr rfl) rfl rfl rfl rfl (.inr ⟨HB.mk rfl,rfl⟩)
  ·have h21:=cF h17 hb
   refine go hΓ 2 rfl ?_
   obtain rfl:=oSi h21
   exact ⟨j10,x8,b11,_,hjsn9,hbsn9,hnsn9,hssn9,⟨⟨rfl,rfl,trivial⟩,[_],rfl,.inr ⟨HB.mk rfl,FB.mk rfl,(nBe rfl)⟩⟩⟩
theorem Kjf {s:List Str} {r:List Str} (h:Kdw s=some r):EC Tryz.prog 213 [.d (Sl eS s)] [] fun g hp'=>g=.sl 0 r.length∧hp'=[rO 9 1 eS r]:=by
 refine ec_enterC (Fr.of 0 _) Tryz.func213 rfl (Fr.of_ok _) (nBe rfl) fun _=>?_
 refine go_in ?_
 unfold Kdw at h
 refine go hΓ 2 rfl ?_
 refine eo_nilOwn (t:=0) 9 1 rfl (nBe rfl) ?_
 refine go_ops hΓ 6 rfl ?_
 refine eo_isNil hΓ rfl rfl rfl rfl rfl fun b hbn=>?_
 rcases b with _ | _
 ·refine go_ops hΓ 7 rfl ?_
  refine eo_litRowT hΓ (enc:=eS) ([]:List Str) rfl rfl rfl rfl rfl rfl rfl rfl rfl rfl rfl rfl (nBe rfl) ?_
  obtain ⟨y1,hy1,h2⟩:=bi_ok h
  refine go_ops hΓ 1 rfl ?_
  refine eo_appendT hΓ (enc:=eS) hy1 rfl rfl rfl rfl rfl rfl rfl rfl rfl (fun _=>rfl) rfl rfl rfl rfl ?_
  refine go_ops hΓ 3 rfl ?_
  refine j_kill 0 [.dead,rO 9 1 eS y1] rfl (nBe rfl) ?_
  refine j_move 1 0 [rO 9 1 eS y1,.dead] rfl rfl rfl rfl rfl rfl ?_
  refine go hΓ 1 rfl ?_
  refine cv_here ?_
  obtain rfl:=oSi h2
  exact fin_objs hΓ [_] (.inr rfl) rfl rfl rfl rfl (.inr ⟨HB.mk rfl,rfl⟩)
 ·obtain rfl:=List.eq_nil_of_length_eq_zero (hbn rfl).1
  replace h:(some ([]:List Str):Option (List Str))=some r:=h
  refine go_ops hΓ 5 rfl ?_
  refine eo_nilOwn (t:=0) 9 1 rfl (nBe rfl) ?_
  refine go_ops hΓ 4 rfl ?_
  refine cv_kill 0 [.dead,rO 9 1 eS ([]:List Str)] rfl (nBe rfl) ?_
  refine cv_move 1 0 [rO 9 1 eS ([]:List Str),.dead] rfl rfl rfl rfl rfl rfl ?_
  refine cv_here ?_
  obtain rfl:=oSi h
  exact fin_objs hΓ [_] (.inr rfl) rfl rfl rfl rfl (.inr ⟨HB.mk rfl,rfl⟩)
theorem Kjg {n:Kbg} {v_at:Int} {user:Str} {r:Int} (h:Kdx n v_at user=some r):EC Tryz.prog 266 [.ptr 4 0,I v_at,S user] [mOb kS false eB n.users,mOb kS false (eH (some 0)) n.passes,mOb kS true Kgo n.there,mOb kS false (eT 233 11 Kgp) n.story,.box 206 [.d (Sl eS n.d.Users),.d (Sl Kgj n.d.Owners),I n.d.Life,B n.d.Approve,.map 0,.map 1,.map 2,.map 3]] fun g hp'=>g=I r∧hp'=[mOb kS false eB n.users,mOb kS false (eH (some 0)) n.passes,mOb kS true Kgo n.there,mOb kS false (eT 233 11 Kgp) n.story,.box 206 [.d (Sl eS n.d.Users),.d (Sl Kgj n.d.Owners),I n.d.Life,B n.d.Approve,.map 0,.map 1,.map 2,.map 3]]:=by
 refine ec_enter (Fr.of 0 _) Tryz.func266 rfl (Fr.of_ok _) (nBe rfl) fun _=>?_
 refine go_in ?_
 unfold Kdx at h
 refine go hΓ 12 rfl ?_
 refine j_cond rfl (fun hb=>?_) (fun hb=>?_)
 ·have h1:=cT h hb
  refine go hΓ 7 rfl ?_
  obtain rfl:=oSi h1
  exact fin_objs hΓ [] (.inr rfl) rfl rfl rfl rfl (.inl rfl)
 ·have h2:=cF h hb
  refine go hΓ 16 rfl ?_
  obtain rfl:=oSi h2
  exact fin_objs hΓ [] (.inr rfl) rfl rfl rfl rfl (.inl rfl)
theorem Kjh {n:Kbg} {v_at:Int} {m:Kbe} {key:Bool} {al:BagT} {r:Kbg×BagT} (h:Kdy n v_at m key al=some r):EC Tryz.prog 267 [.ptr 4 0,I v_at,.agg [S m.Node,S m.User,S m.Name,S m.Public,.d (Sl eS m.Tags),I m.Joined,I m.Expires,B m.Approved],B key] [mOb kS false eB n.users,mOb kS false (eH (some 0)) n.passes,mOb kS true Kgo n.there,mOb kS false (eT 233 11 Kgp) n.story,.box 206 [.d (Sl eS n.d.Users),.d (Sl Kgj n.d.Owners),I n.d.Life,B n.d.Approve,.map 0,.map 1,.map 2,.map 3],bg al] fun g hp'=>g=.tup []∧hp'=[mOb kS false eB r.1.users,mOb kS false (eH (some 0)) r.1.passes,mOb kS true Kgo r.1.there,mOb kS false (eT 233 11 Kgp) r.1.story,.box 206 [.d (Sl eS r.1.d.Users),.d (Sl Kgj r.1.d.Owners),I r.1.d.Life,B r.1.d.Approve,.map 0,.map 1,.map 2,.map 3],bg r.2]:=by
 refine ec_enterC (Fr.of 0 _) Tryz.func267 rfl (Fr.of_ok _) (nBe rfl) fun _=>?_
 refine go_in ?_
 unfold Kdy at h
 refine go hΓ 2 rfl ?_
 refine eo_box rfl rfl rfl rfl (nBe rfl) ?_
 refine go_ops hΓ 3 rfl ?_
 refine j_drawE [.dead,.dead,.dead,.dead,.box 206 [.d (Sl eS n.d.Users),.d (Sl Kgj n.d.Owners),I n.d.Life,B n.d.Approve,.map 0,.map 1,.map 2,.map 3],.dead,.box 77 [S m.Node,S m.User,S m.Name,S m.Public,.d (Sl eS m.Tags),I m.Joined,I m.Expires,B m.Approved]] [3,5,6] [7] [] hmix (by kernel_rfl) (by kernel_rfl) ⟨rfl,rfl,trivial⟩ (nBe rfl) ?_
 refine go_E hΓ 7 rfl ?_
 refine ge_h0 [mOb kS false eB n.users,mOb kS false (eH (some 0)) n.passes,mOb kS true Kgo (mSet n.there m.Node m),mOb kS false (eT 233 11 Kgp) n.story,.box 206 [.d (Sl eS n.d.Users),.d (Sl Kgj n.d.Owners),I n.d.Life,B n.d.Approve,.map 0,.map 1,.map 2,.map 3],bg al,.box 77 [S m.Node,S m.User,S m.Name,S m.Public,.d (Sl eS m.Tags),I m.Joined,I m.Expires,B m.Approved]] rfl rfl (st_st ⟨rfl,rfl,trivial⟩) (qte_u (opu_mapUpdate hΓ (kv:=kS) (agg:=true) (enc:=Kgo) (id:=2) n.there m.Node m rfl rfl rfl key_str rfl rfl rfl rfl rfl)) ?_
 refine ge_fin ?_
 refine go hΓ 1 rfl ?_
 refine j_drawE [.dead,.dead,.dead,mOb kS false (eT 233 11 Kgp) n.story,.box 206 [.d (Sl eS n.d.Users),.d (Sl Kgj n.d.Owners),I n.d.Life,B n.d.Approve,.map 0,.map 1,.map 2,.map 3],.dead,.box 77 [S m.Node,S m.User,S m.Name,S m.Public,.d (Sl eS m.Tags),I m.Joined,I m.Expires,B m.Approved]] [3,5,9,11,12,14] [18,19] [19] hmix (by kernel_rfl) (by kernel_rfl) ⟨rfl,rfl,rfl,trivial⟩ (nBe rfl) ?_
 refine go_E hΓ 12 rfl ?_
 refine ge_p rfl (fun hp hs=>op_lookupT hΓ (kv:=kS) (te:=233) (sz:=11) (enc:=Kgp) n.story m.Node rfl rfl rfl rfl key_str rfl (hs 3 _ rfl rfl) rfl rfl rfl) rfl ?_
 refine go_E hΓ 3 rfl ?_
 refine ge_q rfl (.inl rfl) (fun _ _=>qte_of_qt (qt_p (op_build hΓ (gs:=[I v_at,S m.Node,S m.User,S m.Name,S m.Public,.d (Sl eS m.Tags),I m.Joined,I m.Expires,B m.Approved,B false,B key]) rfl rfl rfl rfl rfl rfl))) ?_
 refine ge_litT hΓ (enc:=Kgp) [(⟨v_at,m,false,key⟩:Kbf)] rfl rfl rfl rfl rfl rfl rfl rfl rfl rfl rfl rfl ?_
 obtain ⟨y1,hy1,h2⟩:=bi_ok h
 refine ge_h [mOb kS false eB n.users,mOb kS false (eH (some 0)) n.passes,mOb kS true Kgo (mSet n.there m.Node m),mOb kS false (eT 233 11 Kgp) n.story,.box 206 [.d (Sl eS n.d.Users),.d (Sl Kgj n.d.Owners),I n.d.Life,B n.d.Approve,.map 0,.map 1,.map 2,.map 3],.bag y1.2 (arX al.2.1 al.2.2.1 al.2.2.2.1 al.2.2.2.2.1 al.2.2.2.2.2) [],.box 77 [S m.Node,S m.User,S m.Name,S m.Public,.d (Sl eS m.Tags),I m.Joined,I m.Expires,B m.Approved]] rfl rfl rfl (st_st ⟨rfl,rfl,rfl,trivial⟩) (qte_s (ops_appT hΓ (enc:=Kgp) (bg:=5) hy1 rfl rfl rfl rfl rfl rfl rfl rfl (fun _=>rfl) rfl rfl)) ?_
 refine ge_h0 [mOb kS false eB n.users,mOb kS false (eH (some 0)) n.passes,mOb kS true Kgo (mSet n.there m.Node m),mOb kS false (eT 233 11 Kgp) (mSet n.story m.Node y1.1),.box 206 [.d (Sl eS n.d.Users),.d (Sl Kgj n.d.Owners),I n.d.Life,B n.d.Approve,.map 0,.map 1,.map 2,.map 3],.bag y1.2 (arX al.2.1 al.2.2.1 al.2.2.2.1 al.2.2.2.2.1 al.2.2.2.2.2) [],.box 77 [S m.Node,S m.User,S m.Name,S m.Public,.d (Sl eS m.Tags),I m.Joined,I m.Expires,B m.Approved]] rfl rfl (brk_st rfl) (qte_u (opu_mapUpdate hΓ (kv:=kS) (agg:=false) (enc:=(eT 233 11 Kgp)) (id:=3) n.story m.Node y1.1 rfl rfl rfl key_str rfl rfl rfl rfl rfl)) ?_
 refine ge_fin ?_
 refine cv_here ?_
 obtain rfl:=oSi h2
 exact fin_objs hΓ [_] (.inl rfl) rfl rfl rfl rfl (.inr ⟨HB.mk rfl,rfl⟩)
set_option maxHeartbeats 8000000 in
theorem Kji {n:Kbg} {s:Kbb} {al:BagT} {r:Int×Kbg×BagT} (h:Kdz n s al=some r):EC Tryz.prog 188 [.ptr 4 0,.agg (fS s)] [mOb kS false eB n.users,mOb kS false (eH (some 0)) n.passes,mOb kS true Kgo n.there,mOb kS false (eT 233 11 Kgp) n.story,.box 206 [.d (Sl eS n.d.Users),.d (Sl Kgj n.d.Owners),I n.d.Life,B n.d.Approve,.map 0,.map 1,.map 2,.map 3],bg al] fun g hp'=>g=I r.1∧hp'=[mOb kS false eB r.2.1.users,mOb kS false (eH (some 0)) r.2.1.passes,mOb kS true Kgo r.2.1.there,mOb kS false (eT 233 11 Kgp) r.2.1.story,.box 206 [.d (Sl eS r.2.1.d.Users),.d (Sl Kgj r.2.1.d.Owners),I r.2.1.d.Life,B r.2.1.d.Approve,.map 0,.map 1,.map 2,.map 3],bg r.2.2]:=by
 refine ec_enterC (Fr.of 0 _) Tryz.func188 rfl (Fr.of_ok _) (nBe rfl) fun _=>?_
 refine go_in ?_
 unfold Kdz at h
 refine go hΓ 2 rfl ?_
 refine eo_box rfl rfl rfl rfl (nBe rfl) ?_
 refine go_ops hΓ 15 rfl ?_
 refine j_cond rfl (fun hb=>?_) (fun hb=>?_)
 ·have h1:=cT h hb
  refine go hΓ 7 rfl ?_
  refine cv_here ?_
  obtain rfl:=oSi h1
  exact fin_objs hΓ [_] (.inr rfl) rfl rfl rfl rfl (.inr ⟨HB.mk rfl,rfl⟩)
 ·have h2:=cF h hb
  refine go hΓ 3 rfl ?_
  refine j_draw hmix (by kernel_rfl) ?_
  refine go hΓ 6 rfl ?_
  refine gl_o rfl (op_lookupG hΓ (kv:=kS) (agg:=false) (enc:=(eH (some 0))) n.passes s.Join (0:Nat) rfl rfl rfl rfl key_str rfl rfl rfl (zdv_hd rfl) rfl) ?_
  obtain ⟨q3,hq3,h4⟩:=bi_ok h2
  refine go_draw hΓ 5 rfl ?_
  refine j_cutNZ [(0,.ptr 4 0),(3,.ptr 6 0),(5,.d (.hd (some 0) ((mGet n.passes s.Join).getD 0))),(43,B q3)] [mOb kS false eB n.users,mOb kS false (eH (some 0)) n.passes,mOb kS true Kgo n.there,mOb kS false (eT 233 11 Kgp) n.story,.box 206 [.d (Sl eS n.d.Users),.d (Sl Kgj n.d.Owners),I n.d.Life,B n.d.Approve,.map 0,.map 1,.map 2,.map 3],bg al,.box 37 (fS s)] ?_ ?_
  ·refine j_draw hmix (by kernel_rfl) ?_
   refine go hΓ 4 rfl ?_
   refine gl_gsplit rfl rfl (fun hb=>?_) (fun hb=>?_)
   ·have h5:=cT hq3 hb
    refine go_draw hΓ 6 rfl ?_
    refine gl_og rfl rfl (op_lookup hΓ (kv:=kS) (agg:=false) (enc:=eB) n.users s.By (false:Bool) rfl rfl rfl rfl key_str rfl rfl rfl rfl rfl rfl rfl) ?_
    refine go_draw hΓ 3 rfl ?_
    refine gl_gsplit rfl rfl (fun hb=>?_) (fun hb=>?_)
    ·have h6:=cT h5 hb
     refine go_draw hΓ 9 rfl ?_
     obtain rfl:=oSi h6
     exact ⟨⟨rfl,rfl,rfl,rfl,trivial⟩,[],rfl,.inl rfl⟩
    ·have h7:=cF h5 hb
     refine go_draw hΓ 4 rfl ?_
     refine gl_gsplit rfl rfl (fun hb=>?_) (fun hb=>?_)
     ·have h8:=cT h7 hb
      refine go_draw hΓ 1 rfl ?_
      refine gl_og rfl rfl ((op_isNilP hΓ rfl rfl rfl rfl).1) ?_
      refine go_draw hΓ 3 rfl ?_
      obtain rfl:=oSi h8
      exact ⟨⟨rfl,rfl,rfl,rfl,trivial⟩,[],rfl,.inl rfl⟩
     ·have h9:=cF h7 hb
      refine go_draw hΓ 5 rfl ?_
      obtain rfl:=oSi h9
      exact ⟨⟨rfl,rfl,rfl,rfl,trivial⟩,[],rfl,.inl rfl⟩
   ·have h10:=cF hq3 hb
    refine go_draw hΓ 14 rfl ?_
    refine gl_gsplit rfl rfl (fun hb=>?_) (fun hb=>?_)
    ·have h11:=cT h10 hb
     refine go_draw hΓ 1 rfl ?_
     refine gl_og rfl rfl ((op_isNilP hΓ rfl rfl rfl rfl).1) ?_
     refine go_draw hΓ 3 rfl ?_
     obtain rfl:=oSi h11
     exact ⟨⟨rfl,rfl,rfl,rfl,trivial⟩,[],rfl,.inl rfl⟩
    ·have h12:=cF h10 hb
     refine go_draw hΓ 5 rfl ?_
     obtain rfl:=oSi h12
     exact ⟨⟨rfl,rfl,rfl,rfl,trivial⟩,[],rfl,.inl rfl⟩
  ·refine go hΓ 1 rfl ?_
   refine j_cond rfl (fun hb=>?_) (fun hb=>?_)
   ·have h13:=cT h4 hb
    refine go hΓ 7 rfl ?_
    refine cv_here ?_
    obtain rfl:=oSi h13
    exact fin_objs hΓ [_] (.inr rfl) rfl rfl rfl rfl (.inr ⟨HB.mk rfl,rfl⟩)
   ·have h14:=cF h4 hb
    obtain ⟨y15,hy15,h16⟩:=bi_ok h14
    refine go hΓ 8 rfl ?_
    refine eo_callF [5] (I y15) [mOb kS false eB n.users,mOb kS false (eH (some 0)) n.passes,mOb kS true Kgo n.there,mOb kS false (eT 233 11 Kgp) n.story,.box 206 [.d (Sl eS n.d.Users),.d (Sl Kgj n.d.Owners),I n.d.Life,B n.d.Approve,.map 0,.map 1,.map 2,.map 3],bg al,.box 37 (fS s)] (callable Tryz.func264 rfl rfl) (Kjd hy15) rfl (nBe rfl) rfl rfl rfl rfl rfl rfl rfl rfl rfl rfl ?_
    refine go_ops hΓ 9 rfl ?_
    refine j_cond rfl (fun hb=>?_) (fun hb=>?_)
    ·have h17:=cT h16 hb
     refine go hΓ 8 rfl ?_
     refine cv_here ?_
     obtain rfl:=oSi h17
     exact fin_objs hΓ [_] (.inr rfl) rfl rfl rfl rfl (.inr ⟨HB.mk rfl,rfl⟩)
    ·have h18:=cF h16 hb
     refine go hΓ 5 rfl ?_
     refine j_draw hmix (by kernel_rfl) ?_
     refine go hΓ 6 rfl ?_
     refine gl_o rfl (op_lookupT hΓ (kv:=kS) (te:=233) (sz:=11) (enc:=Kgp) n.story s.Node rfl rfl rfl rfl key_str rfl rfl rfl rfl rfl) ?_
     obtain ⟨b19,hb19,h20⟩:=bi_ok h18
     refine gl_o rfl ((op_isNilT hΓ hb19 rfl rfl rfl rfl).2) ?_
     refine go_draw hΓ 3 rfl ?_
     refine j_cond rfl (fun hb=>?_) (fun hb=>?_)
     ·have h21:=cT h20 hb
      refine go hΓ 8 rfl ?_
      refine cv_here ?_
      obtain rfl:=oSi h21
      exact fin_objs hΓ [_] (.inr rfl) rfl rfl rfl rfl (.inr ⟨HB.mk rfl,rfl⟩)
     ·have h22:=cF h20 hb
      obtain ⟨y23,hy23,h24⟩:=bi_ok h22
      refine go hΓ 5 rfl ?_
      refine eo_callF [0,1,2,3,4] (B y23) [mOb kS false eB n.users,mOb kS false (eH (some 0)) n.passes,mOb kS true Kgo n.there,mOb kS false (eT 233 11 Kgp) n.story,.box 206 [.d (Sl eS n.d.Users),.d (Sl Kgj n.d.Owners),I n.d.Life,B n.d.Approve,.map 0,.map 1,.map 2,.map 3],bg al,.box 37 (fS s)] (callable Tryz.func265 rfl rfl) (Kje hy23) rfl (nBe rfl) rfl rfl rfl rfl rfl rfl rfl rfl rfl rfl ?_
      refine go_ops hΓ 3 rfl ?_
      refine j_cond rfl (fun hb=>?_) (fun hb=>?_)
      ·have h25:=cT h24 hb
       refine go hΓ 8 rfl ?_
       refine cv_here ?_
       obtain rfl:=oSi h25
       exact fin_objs hΓ [_] (.inr rfl) rfl rfl rfl rfl (.inr ⟨HB.mk rfl,rfl⟩)
      ·have h26:=cF h24 hb
       refine go hΓ 6 rfl ?_
       refine eo_o rfl (op_lenMap hΓ (kv:=kS) (agg:=true) (enc:=Kgo) n.there rfl rfl rfl rfl) ?_
       refine go_ops hΓ 4 rfl ?_
       refine j_cond rfl (fun hb=>?_) (fun hb=>?_)
       ·have h27:=cT h26 hb
        refine go hΓ 8 rfl ?_
        refine cv_here ?_
        obtain rfl:=oSi h27
        exact fin_objs hΓ [_] (.inr rfl) rfl rfl rfl rfl (.inr ⟨HB.mk rfl,rfl⟩)
       ·have h28:=cF h26 hb
        refine go hΓ 4 rfl ?_
        refine j_drawE [.dead,.dead,.dead,.dead,.box 206 [.d (Sl eS n.d.Users),.d (Sl Kgj n.d.Owners),I n.d.Life,B n.d.Approve,.map 0,.map 1,.map 2,.map 3],.dead,.box 37 (fS s)] [1,3,5,7,9,14] [17,18] [] hmix (by kernel_rfl) (by kernel_rfl) ⟨rfl,rfl,trivial⟩ (nBe rfl) ?_
        refine go_E hΓ 16 rfl ?_
        refine ge_q rfl (.inl rfl) (fun _ _=>qte_of_qt (qt_p (op_build hΓ (gs:=[S s.Node,S s.By,S s.Name,S s.Public,.d (Sl eS []),I s.At,I 0,B (!n.d.Approve)]) rfl rfl rfl rfl rfl rfl))) ?_
        refine ge_h [mOb kS false eB n.users,mOb kS false (eH (some 0)) n.passes,mOb kS true Kgo n.there,mOb kS false (eT 233 11 Kgp) n.story,.box 206 [.d (Sl eS n.d.Users),.d (Sl Kgj n.d.Owners),I n.d.Life,B n.d.Approve,.map 0,.map 1,.map 2,.map 3],bg al,.box 37 (fS s),.box 77 [S [],S [],S [],S [],.d (Sl eS []),I 0,I 0,B false]] rfl rfl rfl (st_st ⟨rfl,rfl,trivial⟩) (qte_s (ops_alloc hΓ (hi:=show Γ 77=some ⟨_,_,_,_⟩ from rfl) rfl)) ?_
        refine ge_h0 [mOb kS false eB n.users,mOb kS false (eH (some 0)) n.passes,mOb kS true Kgo n.there,mOb kS false (eT 233 11 Kgp) n.story,.box 206 [.d (Sl eS n.d.Users),.d (Sl Kgj n.d.Owners),I n.d.Life,B n.d.Approve,.map 0,.map 1,.map 2,.map 3],bg al,.box 37 (fS s),.box 77 [S s.Node,S s.By,S s.Name,S s.Public,.d (Sl eS []),I s.At,I 0,B (!n.d.Approve)]] rfl rfl (st_st ⟨rfl,rfl,trivial⟩) (qte_u (opu_store2 hΓ rfl rfl rfl rfl rfl rfl rfl rfl rfl)) ?_
        refine ge_fin ?_
        refine go hΓ 5 rfl ?_
        refine eo_o rfl ((op_isNilP hΓ rfl rfl rfl rfl).2) ?_
        obtain ⟨q29,hq29,h30⟩:=bi_ok h28
        refine go_ops hΓ 2 rfl ?_
        refine j_cutNZ [(0,.ptr 4 0),(3,.ptr 6 0),(7,.ptr 7 0)] [mOb kS false eB n.users,mOb kS false (eH (some 0)) n.passes,mOb kS true Kgo n.there,mOb kS false (eT 233 11 Kgp) n.story,.box 206 [.d (Sl eS n.d.Users),.d (Sl Kgj n.d.Owners),I n.d.Life,B n.d.Approve,.map 0,.map 1,.map 2,.map 3],bg q29.1,.box 37 (fS s),.box 77 [S q29.2.Node,S q29.2.User,S q29.2.Name,S q29.2.Public,.d (Sl eS q29.2.Tags),I q29.2.Joined,I q29.2.Expires,B q29.2.Approved]] ?_ ?_
        ·refine j_cond rfl (fun hb=>?_) (fun hb=>?_)
         ·have h31:=cT hq29 hb
          obtain ⟨hg33,h32⟩:=gd_ok h31
          refine go hΓ 3 rfl ?_
          refine eo_o rfl (op_nilCheckH hg33 rfl) ?_
          refine eo_o rfl (op_fieldAddrH hΓ hg33 rfl rfl rfl rfl rfl rfl) ?_
          obtain ⟨m34,hm34,h35⟩:=bi_ok h32
          refine eo_o rfl (op_loadH hΓ (enc:=Kgs) (bg:=5) m34 rfl rfl (ArU.l _ (arU_here (fun _ _=>rfl) hm34 m34)) rfl (g:=I m34.used) rfl rfl) ?_
          obtain ⟨hg37,h36⟩:=gd_ok h35
          refine go_ops hΓ 1 rfl ?_
          refine eo_o rfl (op_nilCheckH hg37 rfl) ?_
          refine eo_o rfl (op_fieldAddrH hΓ hg37 rfl rfl rfl rfl rfl rfl) ?_
          obtain ⟨m38,hm38,h39⟩:=bi_ok h36
          refine eo_u (nBe rfl) (opu_storeH hΓ (enc:=Kgs) (bg:=5) m38 (⟨m38.Join,m38.revoked,wi (m34.used+1)⟩:Kbj) rfl rfl (ArU.l _ (arU_here (fun _ _=>rfl) hm38 (⟨m38.Join,m38.revoked,wi (m34.used+1)⟩:Kbj))) rfl rfl (by intro e; cases e) rfl rfl rfl rfl rfl rfl rfl) ?_
          refine eo_hp [mOb kS false eB n.users,mOb kS false (eH (some 0)) n.passes,mOb kS true Kgo n.there,mOb kS false (eT 233 11 Kgp) n.story,.box 206 [.d (Sl eS n.d.Users),.d (Sl Kgj n.d.Owners),I n.d.Life,B n.d.Approve,.map 0,.map 1,.map 2,.map 3],.bag al.1 (arX (hSet al.2.1 ((mGet n.passes s.Join).getD 0) (⟨m38.Join,m38.revoked,wi (m34.used+1)⟩:Kbj)) al.2.2.1 al.2.2.2.1 al.2.2.2.2.1 al.2.2.2.2.2) [],.box 37 (fS s),.box 77 [S s.Node,S s.By,S s.Name,S s.Public,.d (Sl eS []),I s.At,I 0,B (!n.d.Approve)]] rfl ?_
          obtain ⟨hg41,h40⟩:=gd_ok h39
          refine go_ops hΓ 5 rfl ?_
          refine eo_o rfl (op_nilCheckH hg41 rfl) ?_
          refine eo_o rfl (op_fieldAddrH hΓ hg41 rfl rfl rfl rfl rfl rfl) ?_
          refine eo_o rfl (op_fieldAddrH hΓ hg41 rfl rfl rfl rfl rfl rfl) ?_
          obtain ⟨m42,hm42,h43⟩:=bi_ok h40
          refine eo_o rfl (op_loadH hΓ (enc:=Kgs) (bg:=5) m42 rfl rfl (ArU.l _ (arU_here (fun _ _=>rfl) hm42 m42)) rfl (g:=.d (Sl eS m42.Join.Tags)) rfl rfl) ?_
          obtain ⟨y44,hy44,h45⟩:=bi_ok h43
          refine eo_callP (callable Tryz.func213 rfl rfl) (Pure.rows (Kjf hy44) rfl rfl) rfl (nBe rfl) rfl rfl rfl rfl rfl ?_
          refine go_ops hΓ 1 rfl ?_
          refine eo_store hΓ rfl rfl rfl rfl rfl rfl rfl rfl (nBe rfl) ?_
          refine eo_hp [mOb kS false eB n.users,mOb kS false (eH (some 0)) n.passes,mOb kS true Kgo n.there,mOb kS false (eT 233 11 Kgp) n.story,.box 206 [.d (Sl eS n.d.Users),.d (Sl Kgj n.d.Owners),I n.d.Life,B n.d.Approve,.map 0,.map 1,.map 2,.map 3],.bag al.1 (arX (hSet al.2.1 ((mGet n.passes s.Join).getD 0) (⟨m38.Join,m38.revoked,wi (m34.used+1)⟩:Kbj)) al.2.2.1 al.2.2.2.1 al.2.2.2.2.1 al.2.2.2.2.2) [],.box 37 (fS s),.box 77 [S s.Node,S s.By,S s.Name,S s.Public,.d (Sl eS y44),I s.At,I 0,B (!n.d.Approve)]] rfl ?_
          obtain ⟨hg47,h46⟩:=gd_ok h45
          refine go_ops hΓ 6 rfl ?_
          refine eo_o rfl (op_nilCheckH hg47 rfl) ?_
          refine eo_o rfl (op_fieldAddrH hΓ hg47 rfl rfl rfl rfl rfl rfl) ?_
          refine eo_o rfl (op_fieldAddrH hΓ hg47 rfl rfl rfl rfl rfl rfl) ?_
          obtain ⟨m48,hm48,h49⟩:=bi_ok h46
          refine eo_o rfl (op_loadH hΓ (enc:=Kgs) (bg:=5) m48 rfl rfl (ArU.l _ (arU_here (fun _ _=>rfl) hm48 m48)) rfl (g:=.d (Sl eS m48.Join.Tags)) rfl rfl) ?_
          obtain ⟨q50,hq50,h51⟩:=bi_ok h49
          refine go_ops hΓ 4 rfl ?_
          refine j_cutNZ [(0,.ptr 4 0),(3,.ptr 6 0),(5,.d (.hd (some 0) ((mGet n.passes s.Join).getD 0))),(7,.ptr 7 0)] [mOb kS false eB n.users,mOb kS false (eH (some 0)) n.passes,mOb kS true Kgo n.there,mOb kS false (eT 233 11 Kgp) n.story,.box 206 [.d (Sl eS n.d.Users),.d (Sl Kgj n.d.Owners),I n.d.Life,B n.d.Approve,.map 0,.map 1,.map 2,.map 3],.bag al.1 (arX (hSet al.2.1 ((mGet n.passes s.Join).getD 0) (⟨m38.Join,m38.revoked,wi (m34.used+1)⟩:Kbj)) al.2.2.1 al.2.2.2.1 al.2.2.2.2.1 al.2.2.2.2.2) [],.box 37 (fS s),.box 77 [S s.Node,S q50,S s.Name,S s.Public,.d (Sl eS y44),I s.At,I 0,B (!n.d.Approve)]] ?_ ?_
          ·refine j_cond rfl (fun hb=>?_) (fun hb=>?_)
           ·have h52:=cT hq50 hb
            obtain ⟨hg54,h53⟩:=gd_ok h52
            refine go hΓ 2 rfl ?_
            refine eo_o rfl (op_nilCheckH hg54 rfl) ?_
            refine eo_o rfl (op_fieldAddrH hΓ hg54 rfl rfl rfl rfl rfl rfl) ?_
            refine eo_o rfl (op_fieldAddrH hΓ hg54 rfl rfl rfl rfl rfl rfl) ?_
            obtain ⟨m55,hm55,h56⟩:=bi_ok h53
            refine eo_o rfl (op_loadH hΓ (enc:=Kgs) (bg:=5) m55 rfl rfl (ArU.l _ (arU_here (fun _ _=>rfl) hm55 m55)) rfl (g:=S m55.Join.By) rfl rfl) ?_
            refine go_ops hΓ 1 rfl ?_
            refine eo_store hΓ rfl rfl rfl rfl rfl rfl rfl rfl (nBe rfl) ?_
            refine eo_hp [mOb kS false eB n.users,mOb kS false (eH (some 0)) n.passes,mOb kS true Kgo n.there,mOb kS false (eT 233 11 Kgp) n.story,.box 206 [.d (Sl eS n.d.Users),.d (Sl Kgj n.d.Owners),I n.d.Life,B n.d.Approve,.map 0,.map 1,.map 2,.map 3],.bag al.1 (arX (hSet al.2.1 ((mGet n.passes s.Join).getD 0) (⟨m38.Join,m38.revoked,wi (m34.used+1)⟩:Kbj)) al.2.2.1 al.2.2.2.1 al.2.2.2.2.1 al.2.2.2.2.2) [],.box 37 (fS s),.box 77 [S s.Node,S m55.Join.By,S s.Name,S s.Public,.d (Sl eS y44),I s.At,I 0,B (!n.d.Approve)]] rfl ?_
            refine go_ops hΓ 1 rfl ?_
            obtain rfl:=oSi h56
            exact ⟨⟨rfl,rfl,rfl,rfl,trivial⟩,[],rfl,.inl rfl⟩
           ·have h57:=cF hq50 hb
            refine go hΓ 1 rfl ?_
            obtain rfl:=oSi h57
            exact ⟨⟨rfl,rfl,rfl,rfl,trivial⟩,[],rfl,.inl rfl⟩
          ·refine go hΓ 5 rfl ?_
           obtain ⟨q58,hq58,h59⟩:=bi_ok h51
           refine o_cut 6 [(0,.ptr 4 0),(3,.ptr 6 0),(7,.ptr 7 0),(126,B q58)] [mOb kS false eB n.users,mOb kS false (eH (some 0)) n.passes,mOb kS true Kgo n.there,mOb kS false (eT 233 11 Kgp) n.story,.box 206 [.d (Sl eS n.d.Users),.d (Sl Kgj n.d.Owners),I n.d.Life,B n.d.Approve,.map 0,.map 1,.map 2,.map 3],.bag al.1 (arX (hSet al.2.1 ((mGet n.passes s.Join).getD 0) (⟨m38.Join,m38.revoked,wi (m34.used+1)⟩:Kbj)) al.2.2.1 al.2.2.2.1 al.2.2.2.2.1 al.2.2.2.2.2) [],.box 37 (fS s),.box 77 [S s.Node,S q50,S s.Name,S s.Public,.d (Sl eS y44),I s.At,I 0,B (!n.d.Approve)]] ?_ ?_
           ·refine eo_gsplit rfl rfl (fun hb=>?_) (fun hb=>?_)
            ·have h60:=cT hq58 hb
             refine go_ops hΓ 7 rfl ?_
             obtain rfl:=oSi h60
             exact ⟨⟨rfl,rfl,rfl,rfl,trivial⟩,[],rfl,.inl rfl⟩
            ·have h61:=cF hq58 hb
             obtain ⟨hg63,h62⟩:=gd_ok h61
             refine go_ops hΓ 1 rfl ?_
             refine eo_guard rfl ?_
             refine eo_o rfl (op_nilCheckH hg63 rfl) ?_
             refine eo_guard rfl ?_
             refine eo_o rfl (op_fieldAddrH hΓ hg63 rfl rfl rfl rfl rfl rfl) ?_
             refine eo_guard rfl ?_
             refine eo_o rfl (op_fieldAddrH hΓ hg63 rfl rfl rfl rfl rfl rfl) ?_
             obtain ⟨m64,hm64,h65⟩:=bi_ok h62
             refine eo_guard rfl ?_
             refine eo_o rfl (op_loadH hΓ (enc:=Kgs) (bg:=5) m64 rfl rfl (ArU.l _ (arU_here (fun _ _=>rfl) hm64 m64)) rfl (g:=B m64.Join.Ready) rfl rfl) ?_
             refine go_ops hΓ 2 rfl ?_
             obtain rfl:=oSi h65
             exact ⟨⟨rfl,rfl,rfl,rfl,trivial⟩,[],rfl,.inl rfl⟩
           ·refine go_ops hΓ 1 rfl ?_
            refine eo_store hΓ rfl rfl rfl rfl rfl rfl rfl rfl (nBe rfl) ?_
            refine eo_hp [mOb kS false eB n.users,mOb kS false (eH (some 0)) n.passes,mOb kS true Kgo n.there,mOb kS false (eT 233 11 Kgp) n.story,.box 206 [.d (Sl eS n.d.Users),.d (Sl Kgj n.d.Owners),I n.d.Life,B n.d.Approve,.map 0,.map 1,.map 2,.map 3],.bag al.1 (arX (hSet al.2.1 ((mGet n.passes s.Join).getD 0) (⟨m38.Join,m38.revoked,wi (m34.used+1)⟩:Kbj)) al.2.2.1 al.2.2.2.1 al.2.2.2.2.1 al.2.2.2.2.2) [],.box 37 (fS s),.box 77 [S s.Node,S q50,S s.Name,S s.Public,.d (Sl eS y44),I s.At,I 0,B q58]] rfl ?_
            refine go_ops hΓ 1 rfl ?_
            obtain rfl:=oSi h59
            exact ⟨⟨rfl,rfl,rfl,trivial⟩,[],rfl,.inl rfl⟩
         ·have h66:=cF hq29 hb
          refine go hΓ 1 rfl ?_
          obtain rfl:=oSi h66
          exact ⟨⟨rfl,rfl,rfl,trivial⟩,[],rfl,.inl rfl⟩
        ·obtain ⟨y67,hy67,h68⟩:=bi_ok h30
         refine go hΓ 8 rfl ?_
         refine eo_callF [0,1,2,3,4] (I y67) [mOb kS false eB n.users,mOb kS false (eH (some 0)) n.passes,mOb kS true Kgo n.there,mOb kS false (eT 233 11 Kgp) n.story,.box 206 [.d (Sl eS n.d.Users),.d (Sl Kgj n.d.Owners),I n.d.Life,B n.d.Approve,.map 0,.map 1,.map 2,.map 3],bg q29.1,.box 37 (fS s),.box 77 [S q29.2.Node,S q29.2.User,S q29.2.Name,S q29.2.Public,.d (Sl eS q29.2.Tags),I q29.2.Joined,I q29.2.Expires,B q29.2.Approved]] (callable Tryz.func266 rfl rfl) (Kjg hy67) rfl (nBe rfl) rfl rfl rfl rfl rfl rfl rfl rfl rfl rfl ?_
         refine go_ops hΓ 1 rfl ?_
         refine eo_store hΓ rfl rfl rfl rfl rfl rfl rfl rfl (nBe rfl) ?_
         refine eo_hp [mOb kS false eB n.users,mOb kS false (eH (some 0)) n.passes,mOb kS true Kgo n.there,mOb kS false (eT 233 11 Kgp) n.story,.box 206 [.d (Sl eS n.d.Users),.d (Sl Kgj n.d.Owners),I n.d.Life,B n.d.Approve,.map 0,.map 1,.map 2,.map 3],bg q29.1,.box 37 (fS s),.box 77 [S q29.2.Node,S q29.2.User,S q29.2.Name,S q29.2.Public,.d (Sl eS q29.2.Tags),I q29.2.Joined,I y67,B q29.2.Approved]] rfl ?_
         obtain ⟨y69,hy69,h70⟩:=bi_ok h68
         refine go_ops hΓ 8 rfl ?_
         refine eo_callF [0,1,2,3,4,5] (.tup []) [mOb kS false eB y69.1.users,mOb kS false (eH (some 0)) y69.1.passes,mOb kS true Kgo y69.1.there,mOb kS false (eT 233 11 Kgp) y69.1.story,.box 206 [.d (Sl eS y69.1.d.Users),.d (Sl Kgj y69.1.d.Owners),I y69.1.d.Life,B y69.1.d.Approve,.map 0,.map 1,.map 2,.map 3],bg y69.2,.box 37 (fS s),.box 77 [S q29.2.Node,S q29.2.User,S q29.2.Name,S q29.2.Public,.d (Sl eS q29.2.Tags),I q29.2.Joined,I y67,B q29.2.Approved]] (callable Tryz.func267 rfl rfl) (Kjh hy69) rfl (nBe rfl) rfl rfl rfl rfl rfl rfl rfl rfl rfl rfl ?_
         refine go_ops hΓ 8 rfl ?_
         refine cv_here ?_
         obtain rfl:=oSi h70
         exact fin_objs hΓ [_,_] (.inr rfl) rfl rfl rfl rfl (.inr ⟨HB.mk rfl,rfl⟩)
theorem Kjj {o:Kaz} {x:Str} {r:Bool} (h:Kea o x=some r):EC Tryz.prog 210 [.agg [S o.Tag,.d (Sl eS o.Users)],.ptr 0 0] [.box 9 [S x]] fun g hp'=>g=B r∧hp'=[.box 9 [S x]]:=by
 refine ec_enter (Fr.of 0 _) Tryz.func210 rfl (Fr.of_ok _) (nBe rfl) fun _=>?_
 refine go_in ?_
 unfold Kea at h
 refine go hΓ 2 rfl ?_
 refine eo_box rfl rfl rfl rfl (nBe rfl) ?_
 refine go_ops hΓ 13 rfl ?_
 obtain rfl:=oSi h
 exact fin_objs hΓ [_] (.inr rfl) rfl rfl rfl rfl (.inr ⟨HB.mk rfl,rfl⟩)
theorem Kjk {s:List Kaz} {f:Str} {r:Int} (h:Keb s f=some r):EC Tryz.prog 209 [.d (Sl Kgj s),.fn (.func 210) [] [.ptr 0 0]] [.box 9 [S f]] fun g hp'=>g=I r∧hp'=[.box 9 [S f]]:=by
 refine ec_enter (Fr.of 0 _) Tryz.func209 rfl (Fr.of_ok _) (nBe rfl) fun _=>?_
 refine go_in ?_
 unfold Keb at h
 refine go hΓ 13 rfl ?_
 obtain ⟨q4,hq4,h5⟩:=bi_ok h
 refine j_bound 0 rfl fun hb7=>?_
 refine j_cutEZ (R:=fun a6=>q4=.go a6) (fun a6=>[]) (fun a6=>[.box 9 [S f]]) ?_ ?_
 ·refine go hΓ 1 rfl ?_
  refine j_range s hq4 (fun i1 s2=>[(0,.d (Sl Kgj s)),(1,.fn (.func 210) [] [.ptr 0 0]),(7,I (s.length:Int)),(8,I (i1:Int))]) (fun s2=>[.box 9 [S f]]) ⟨⟨rfl,rfl,rfl,rfl,trivial⟩,[],rfl,.inl rfl⟩ (fun i1 x3 s2 y11 hx8 hlt hy9 hout10=>?_) (fun s2 hgo=>?_)
  ·refine go hΓ 6 rfl ?_
   refine j_condT rfl (decide_eq_true (Int.ofNat_lt.2 hlt)) ?_
   refine go hΓ 15 rfl ?_
   refine eo_o rfl (op_elemZ hΓ (enc:=Kgj) (getZ_nat hx8) rfl rfl rfl rfl rfl (fun _=>rfl)) ?_
   obtain ⟨y12,hy12,h13⟩:=bi_ok hy9
   refine go_ops hΓ 1 rfl ?_
   refine eo_callF [0] (B y12) [.box 9 [S f]] (callable Tryz.func210 rfl rfl) (Kjj hy12) rfl (nBe rfl) rfl rfl rfl rfl rfl rfl rfl rfl rfl rfl ?_
   refine go_ops hΓ 2 rfl ?_
   refine j_cond rfl (fun hb=>?_) (fun hb=>?_)
   ·have h14:=cT h13 hb
    refine go hΓ 9 rfl ?_
    obtain ⟨v15,hv15,h16⟩:=bi_ok h14
    obtain rfl:=oSi h16
    obtain rfl:=hout10 _ rfl
    obtain rfl:=oSi h5
    refine go hΓ 4 rfl ?_
    obtain rfl:=oSi hv15
    exact fin_objs hΓ [] (.inr rfl) rfl rfl rfl rfl (.inl rfl)
   ·have h17:=cF h13 hb
    refine go hΓ 7 rfl ?_
    obtain rfl:=oSi h17
    exact ⟨_,rfl,⟨⟨rfl,rfl,rfl,get_eq rfl (w64_succ (Nat.lt_of_lt_of_le hlt hb7)),trivial⟩,[],rfl,.inl rfl⟩⟩
  ·subst hgo
   refine go hΓ 6 rfl ?_
   refine j_condF rfl (decide_eq_false (Int.lt_irrefl _)) ?_
   refine go hΓ 4 rfl ?_
   exact ⟨_,rfl,⟨trivial,[],rfl,.inl rfl⟩⟩
 ·intro a6 ha
  subst ha
  replace h5:=goI_l h5
  refine go hΓ 7 rfl ?_
  obtain rfl:=oSi h5
  exact fin_objs hΓ [] (.inr rfl) rfl rfl rfl rfl (.inl rfl)
theorem Kjl {d:Kba} {user:Str} {tag:Str} {r:Bool×Bool} (h:Kec d user tag=some r):Pure Tryz.prog 102 [.agg (fD d),S user,S tag] (.tup [B r.1,B r.2]):=by
 refine Pure.enter (Fr.of 0 _) Tryz.func102 rfl (Fr.of_ok _) rfl rfl ?_
 refine go_in ?_
 unfold Kec at h
 refine go hΓ 2 rfl ?_
 refine eo_box rfl rfl rfl rfl (nBe rfl) ?_
 refine eo_box rfl rfl rfl rfl (nBe rfl) ?_
 obtain ⟨y1,hy1,h2⟩:=bi_ok h
 refine go_ops hΓ 9 rfl ?_
 refine eo_callF [1] (I y1) [.box 29 (fD d),.box 9 [S tag]] (callable Tryz.func209 rfl rfl) (Kjk hy1) rfl (nBe rfl) rfl rfl rfl rfl rfl rfl rfl rfl rfl rfl ?_
 refine go_ops hΓ 8 rfl ?_
 obtain ⟨q3,hq3,h4⟩:=bi_ok h2
 refine o_cut 9 [(6,B false),(7,B false),(8,I y1),(24,B q3)] [.box 29 (fD d),.box 9 [S tag]] ?_ ?_
 ·refine eo_gsplit rfl rfl (fun hb=>?_) (fun hb=>?_)
  ·have h5:=cT hq3 hb
   obtain ⟨x6,hx6,h7⟩:=bi_ok h5
   refine go_ops hΓ 3 rfl ?_
   refine eo_guard rfl ?_
   refine eo_o rfl (op_elemZ hΓ (enc:=Kgj) hx6 rfl rfl rfl rfl rfl (fun _=>rfl)) ?_
   obtain ⟨y8,hy8,h9⟩:=bi_ok h7
   refine go_ops hΓ 3 rfl ?_
   refine eo_guard rfl ?_
   refine eo_callP (callable Tryz.func61 rfl rfl) (Kht hy8) rfl (nBe rfl) rfl rfl rfl rfl rfl ?_
   refine go_ops hΓ 2 rfl ?_
   obtain rfl:=oSi h9
   exact ⟨⟨rfl,rfl,rfl,rfl,trivial⟩,[],rfl,.inl rfl⟩
  ·have h10:=cF hq3 hb
   refine go_ops hΓ 10 rfl ?_
   obtain rfl:=oSi h10
   exact ⟨⟨rfl,rfl,rfl,rfl,trivial⟩,[],rfl,.inl rfl⟩
 ·refine go_ops hΓ 7 rfl ?_
  obtain rfl:=oSi h4
  exact fin_pure hΓ (.inr rfl) rfl rfl
theorem Kjm {n:Kbg} {user:Str} {tags:List Str} {r:Int} (h:Ked n user tags=some r):EC Tryz.prog 268 [.ptr 4 0,S user,.d (Sl eS tags)] [mOb kS false eB n.users,mOb kS false (eH (some 0)) n.passes,mOb kS true Kgo n.there,mOb kS false (eT 233 11 Kgp) n.story,.box 206 [.d (Sl eS n.d.Users),.d (Sl Kgj n.d.Owners),I n.d.Life,B n.d.Approve,.map 0,.map 1,.map 2,.map 3]] fun g hp'=>g=I r∧hp'=[mOb kS false eB n.users,mOb kS false (eH (some 0)) n.passes,mOb kS true Kgo n.there,mOb kS false (eT 233 11 Kgp) n.story,.box 206 [.d (Sl eS n.d.Users),.d (Sl Kgj n.d.Owners),I n.d.Life,B n.d.Approve,.map 0,.map 1,.map 2,.map 3]]:=by
 refine ec_enter (Fr.of 0 _) Tryz.func268 rfl (Fr.of_ok _) (nBe rfl) fun _=>?_
 refine go_in ?_
 unfold Ked at h
 refine go hΓ 13 rfl ?_
 obtain ⟨q4,hq4,h5⟩:=bi_ok h
 refine j_bound 11 rfl fun hb7=>?_
 refine j_cutEZ (R:=fun a6=>q4=.go a6) (fun a6=>[]) (fun a6=>[mOb kS false eB n.users,mOb kS false (eH (some 0)) n.passes,mOb kS true Kgo n.there,mOb kS false (eT 233 11 Kgp) n.story,.box 206 [.d (Sl eS n.d.Users),.d (Sl Kgj n.d.Owners),I n.d.Life,B n.d.Approve,.map 0,.map 1,.map 2,.map 3]]) ?_ ?_
 ·refine go hΓ 1 rfl ?_
  refine j_range tags hq4 (fun i1 s2=>[(0,.ptr 4 0),(1,S user),(11,.d (Sl eS tags)),(12,I (tags.length:Int)),(13,I (i1:Int))]) (fun s2=>[mOb kS false eB n.users,mOb kS false (eH (some 0)) n.passes,mOb kS true Kgo n.there,mOb kS false (eT 233 11 Kgp) n.story,.box 206 [.d (Sl eS n.d.Users),.d (Sl Kgj n.d.Owners),I n.d.Life,B n.d.Approve,.map 0,.map 1,.map 2,.map 3]]) ⟨⟨rfl,rfl,rfl,rfl,rfl,trivial⟩,[],rfl,.inl rfl⟩ (fun i1 x3 s2 y11 hx8 hlt hy9 hout10=>?_) (fun s2 hgo=>?_)
  ·refine go hΓ 6 rfl ?_
   refine j_condT rfl (decide_eq_true (Int.ofNat_lt.2 hlt)) ?_
   refine go hΓ 6 rfl ?_
   refine eo_o rfl (op_elemZ hΓ (enc:=eS) (getZ_nat hx8) rfl rfl rfl rfl rfl (fun _=>rfl)) ?_
   obtain ⟨y12,hy12,h13⟩:=bi_ok hy9
   refine go_ops hΓ 12 rfl ?_
   refine eo_callP (callable Tryz.func102 rfl rfl) (Kjl hy12) rfl (nBe rfl) rfl rfl rfl rfl rfl ?_
   refine go_ops hΓ 14 rfl ?_
   refine j_cond rfl (fun hb=>?_) (fun hb=>?_)
   ·have h14:=cT h13 hb
    refine go hΓ 9 rfl ?_
    obtain ⟨v15,hv15,h16⟩:=bi_ok h14
    obtain rfl:=oSi h16
    obtain rfl:=hout10 _ rfl
    obtain rfl:=oSi h5
    refine go hΓ 4 rfl ?_
    obtain rfl:=oSi hv15
    exact fin_objs hΓ [] (.inr rfl) rfl rfl rfl rfl (.inl rfl)
   ·have h17:=cF h13 hb
    refine go hΓ 8 rfl ?_
    refine j_cond rfl (fun hb=>?_) (fun hb=>?_)
    ·have h18:=cT h17 hb
     refine go hΓ 8 rfl ?_
     obtain ⟨v19,hv19,h20⟩:=bi_ok h18
     obtain rfl:=oSi h20
     obtain rfl:=hout10 _ rfl
     obtain rfl:=oSi h5
     refine go hΓ 4 rfl ?_
     obtain rfl:=oSi hv19
     exact fin_objs hΓ [] (.inr rfl) rfl rfl rfl rfl (.inl rfl)
    ·have h21:=cF h17 hb
     refine go hΓ 7 rfl ?_
     obtain rfl:=oSi h21
     exact ⟨_,rfl,⟨⟨rfl,rfl,rfl,rfl,get_eq rfl (w64_succ (Nat.lt_of_lt_of_le hlt hb7)),trivial⟩,[],rfl,.inl rfl⟩⟩
  ·subst hgo
   refine go hΓ 6 rfl ?_
   refine j_condF rfl (decide_eq_false (Int.lt_irrefl _)) ?_
   refine go hΓ 4 rfl ?_
   exact ⟨_,rfl,⟨trivial,[],rfl,.inl rfl⟩⟩
 ·intro a6 ha
  subst ha
  replace h5:=goI_l h5
  refine go hΓ 7 rfl ?_
  obtain rfl:=oSi h5
  exact fin_objs hΓ [] (.inr rfl) rfl rfl rfl rfl (.inl rfl)
set_option maxHeartbeats 8000000 in
theorem Kjn {n:Kbg} {s:Kbb} {al:BagT} {r:Int×Kbg×BagT} (h:Kee n s al=some r):EC Tryz.prog 189 [.ptr 4 0,.agg (fS s)] [mOb kS false eB n.users,mOb kS false (eH (some 0)) n.passes,mOb kS true Kgo n.there,mOb kS false (eT 233 11 Kgp) n.story,.box 206 [.d (Sl eS n.d.Users),.d (Sl Kgj n.d.Owners),I n.d.Life,B n.d.Approve,.map 0,.map 1,.map 2,.map 3],bg al] fun g hp'=>g=I r.1∧hp'=[mOb kS false eB r.2.1.users,mOb kS false (eH (some 0)) r.2.1.passes,mOb kS true Kgo r.2.1.there,mOb kS false (eT 233 11 Kgp) r.2.1.story,.box 206 [.d (Sl eS r.2.1.d.Users),.d (Sl Kgj r.2.1.d.Owners),I r.2.1.d.Life,B r.2.1.d.Approve,.map 0,.map 1,.map 2,.map 3],bg r.2.2]:=by
 refine ec_enterC (Fr.of 0 _) Tryz.func189 rfl (Fr.of_ok _) (nBe rfl) fun _=>?_
 refine go_in ?_
 unfold Kee at h
 refine go hΓ 2 rfl ?_
 refine eo_box rfl rfl rfl rfl (nBe rfl) ?_
 refine go_ops hΓ 5 rfl ?_
 refine j_draw hmix (by kernel_rfl) ?_
 refine go hΓ 6 rfl ?_
 refine gl_o rfl (op_lookupG hΓ (kv:=kS) (agg:=false) (enc:=(eH (some 0))) n.passes s.Join (0:Nat) rfl rfl rfl rfl key_str rfl rfl rfl (zdv_hd rfl) rfl) ?_
 refine gl_o rfl ((op_isNilP hΓ rfl rfl rfl rfl).2) ?_
 refine go_draw hΓ 2 rfl ?_
 refine j_cond rfl (fun hb=>?_) (fun hb=>?_)
 ·have h1:=cT h hb
  refine go hΓ 7 rfl ?_
  refine cv_here ?_
  obtain rfl:=oSi h1
  exact fin_objs hΓ [_] (.inr rfl) rfl rfl rfl rfl (.inr ⟨HB.mk rfl,rfl⟩)
 ·have h2:=cF h hb
  obtain ⟨y3,hy3,h4⟩:=bi_ok h2
  refine go hΓ 7 rfl ?_
  refine eo_callP (callable Tryz.func108 rfl rfl) (Kik hy3) rfl (nBe rfl) rfl rfl rfl rfl rfl ?_
  refine go_ops hΓ 1 rfl ?_
  obtain ⟨q5,hq5,h6⟩:=bi_ok h4
  refine o_cut 7 [(0,.ptr 4 0),(3,.ptr 6 0),(24,B q5)] [mOb kS false eB n.users,mOb kS false (eH (some 0)) n.passes,mOb kS true Kgo n.there,mOb kS false (eT 233 11 Kgp) n.story,.box 206 [.d (Sl eS n.d.Users),.d (Sl Kgj n.d.Owners),I n.d.Life,B n.d.Approve,.map 0,.map 1,.map 2,.map 3],bg al,.box 37 (fS s)] ?_ ?_
  ·refine eo_gsplit rfl rfl (fun hb=>?_) (fun hb=>?_)
   ·have h7:=cT hq5 hb
    refine go_ops hΓ 8 rfl ?_
    obtain rfl:=oSi h7
    exact ⟨⟨rfl,rfl,rfl,trivial⟩,[],rfl,.inl rfl⟩
   ·have h8:=cF hq5 hb
    obtain ⟨y9,hy9,h10⟩:=bi_ok h8
    refine go_ops hΓ 5 rfl ?_
    refine eo_guard rfl ?_
    refine eo_callP (callable Tryz.func108 rfl rfl) (Kik hy9) rfl (nBe rfl) rfl rfl rfl rfl rfl ?_
    refine go_ops hΓ 2 rfl ?_
    obtain rfl:=oSi h10
    exact ⟨⟨rfl,rfl,rfl,trivial⟩,[],rfl,.inl rfl⟩
  ·refine go_ops hΓ 2 rfl ?_
   refine j_cond rfl (fun hb=>?_) (fun hb=>?_)
   ·have h11:=cT h6 hb
    refine go hΓ 7 rfl ?_
    refine cv_here ?_
    obtain rfl:=oSi h11
    exact fin_objs hΓ [_] (.inr rfl) rfl rfl rfl rfl (.inr ⟨HB.mk rfl,rfl⟩)
   ·have h12:=cF h6 hb
    obtain ⟨y13,hy13,h14⟩:=bi_ok h12
    refine go hΓ 10 rfl ?_
    refine eo_callF [0,1,2,3,4] (I y13) [mOb kS false eB n.users,mOb kS false (eH (some 0)) n.passes,mOb kS true Kgo n.there,mOb kS false (eT 233 11 Kgp) n.story,.box 206 [.d (Sl eS n.d.Users),.d (Sl Kgj n.d.Owners),I n.d.Life,B n.d.Approve,.map 0,.map 1,.map 2,.map 3],bg al,.box 37 (fS s)] (callable Tryz.func268 rfl rfl) (Kjm hy13) rfl (nBe rfl) rfl rfl rfl rfl rfl rfl rfl rfl rfl rfl ?_
    refine go_ops hΓ 9 rfl ?_
    refine j_cond rfl (fun hb=>?_) (fun hb=>?_)
    ·have h15:=cT h14 hb
     refine go hΓ 8 rfl ?_
     refine cv_here ?_
     obtain rfl:=oSi h15
     exact fin_objs hΓ [_] (.inr rfl) rfl rfl rfl rfl (.inr ⟨HB.mk rfl,rfl⟩)
    ·have h16:=cF h14 hb
     refine go hΓ 3 rfl ?_
     refine j_drawE [.dead,.dead,.dead,.dead,.box 206 [.d (Sl eS n.d.Users),.d (Sl Kgj n.d.Owners),I n.d.Life,B n.d.Approve,.map 0,.map 1,.map 2,.map 3],.dead,.box 37 (fS s)] [3,5,7,9,11,14,16,18] [21,22] [] hmix (by kernel_rfl) (by kernel_rfl) ⟨rfl,rfl,trivial⟩ (nBe rfl) ?_
     obtain ⟨y17,hy17,h18⟩:=bi_ok h16
     refine go_E hΓ 12 rfl ?_
     refine ge_callP (callable Tryz.func213 rfl rfl) (Pure.rows (Kjf hy17) rfl rfl) rfl rfl rfl rfl rfl rfl ?_
     refine go_E hΓ 6 rfl ?_
     refine ge_q rfl (.inl rfl) (fun _ _=>qte_of_qt (qt_p (op_build hΓ (gs:=[S s.Join,S s.By,.d (Sl eS y17),I s.Until,I s.Uses,B s.Ready]) rfl rfl rfl rfl rfl rfl))) ?_
     refine ge_q rfl (.inl rfl) (fun _ _=>qte_of_qt (qt_p (op_build hΓ (gs:=[S s.Join,S s.By,.d (Sl eS y17),I s.Until,I s.Uses,B s.Ready,B false,I 0]) rfl rfl rfl rfl rfl rfl))) ?_
     refine ge_h [mOb kS false eB n.users,mOb kS false (eH (some 0)) n.passes,mOb kS true Kgo n.there,mOb kS false (eT 233 11 Kgp) n.story,.box 206 [.d (Sl eS n.d.Users),.d (Sl Kgj n.d.Owners),I n.d.Life,B n.d.Approve,.map 0,.map 1,.map 2,.map 3],bg al,.box 37 (fS s),.box 215 [S s.Join,S s.By,.d (Sl eS y17),I s.Until,I s.Uses,B s.Ready,B false,I 0]] rfl rfl rfl (st_st ⟨rfl,rfl,trivial⟩) (qte_s (ops_box rfl rfl rfl)) ?_
     refine ge_h0 [mOb kS false eB n.users,mOb kS false (eH (some 0)) (mSet n.passes s.Join (al.1.length+1)),mOb kS true Kgo n.there,mOb kS false (eT 233 11 Kgp) n.story,.box 206 [.d (Sl eS n.d.Users),.d (Sl Kgj n.d.Owners),I n.d.Life,B n.d.Approve,.map 0,.map 1,.map 2,.map 3],.bag (al.1++[false]) (arX ((al.1.length,(⟨(⟨s.Join,s.By,y17,s.Until,s.Uses,s.Ready⟩:Kbi),false,0⟩:Kbj)) :: al.2.1) al.2.2.1 al.2.2.2.1 al.2.2.2.2.1 al.2.2.2.2.2) [],.box 37 (fS s),.dead] rfl rfl (st_st ⟨rfl,rfl,trivial⟩) (qte_u (opu_pre (gh_putP (hp2:=[mOb kS false eB n.users,mOb kS false (eH (some 0)) n.passes,mOb kS true Kgo n.there,mOb kS false (eT 233 11 Kgp) n.story,.box 206 [.d (Sl eS n.d.Users),.d (Sl Kgj n.d.Owners),I n.d.Life,B n.d.Approve,.map 0,.map 1,.map 2,.map 3],.bag (al.1++[false]) (arX ((al.1.length,(⟨(⟨s.Join,s.By,y17,s.Until,s.Uses,s.Ready⟩:Kbi),false,0⟩:Kbj)) :: al.2.1) al.2.2.1 al.2.2.2.1 al.2.2.2.2.1 al.2.2.2.2.2) [],.box 37 (fS s),.dead]) (bg:=5) (id:=7) (a:=(fB 215 Kgs) al.1.length (⟨(⟨s.Join,s.By,y17,s.Until,s.Uses,s.Ready⟩:Kbi),false,0⟩:Kbj)) [(55,some 0)] ⟨rfl,trivial⟩ rfl rfl ⟨rfl,rfl⟩ rfl rfl (arN_l _ arN_here) rfl rfl) (opu_mapUpdate hΓ (kv:=kS) (agg:=false) (enc:=(eH (some 0))) (id:=1) n.passes s.Join (al.1.length+1) rfl rfl rfl key_str rfl rfl rfl rfl rfl) (nBe rfl))) ?_
     refine ge_fin ?_
     refine go hΓ 7 rfl ?_
     refine cv_here ?_
     obtain rfl:=oSi h18
     exact fin_objs hΓ [_,_] (.inr rfl) rfl rfl rfl rfl (.inr ⟨HB.mk rfl,rfl⟩)
theorem Kjo {n:Kbg} {s:Kbb} {al:BagT} {r:Int×BagT} (h:Kef n s al=some r):EC Tryz.prog 190 [.ptr 4 0,.agg (fS s)] [mOb kS false eB n.users,mOb kS false (eH (some 0)) n.passes,mOb kS true Kgo n.there,mOb kS false (eT 233 11 Kgp) n.story,.box 206 [.d (Sl eS n.d.Users),.d (Sl Kgj n.d.Owners),I n.d.Life,B n.d.Approve,.map 0,.map 1,.map 2,.map 3],bg al] fun g hp'=>g=I r.1∧hp'=[mOb kS false eB n.users,mOb kS false (eH (some 0)) n.passes,mOb kS true Kgo n.there,mOb kS false (eT 233 11 Kgp) n.story,.box 206 [.d (Sl eS n.d.Users),.d (Sl Kgj n.d.Owners),I n.d.Life,B n.d.Approve,.map 0,.map 1,.map 2,.map 3],bg r.2]:=by
 refine ec_enter (Fr.of 0 _) Tryz.func190 rfl (Fr.of_ok _) (nBe rfl) fun _=>?_
 refine go_in ?_
 unfold Kef at h
 refine go hΓ 2 rfl ?_
 refine eo_box rfl rfl rfl rfl (nBe rfl) ?_
 refine go_ops hΓ 4 rfl ?_
 refine j_draw hmix (by kernel_rfl) ?_
 refine go hΓ 6 rfl ?_
 refine gl_o rfl (op_lookupG hΓ (kv:=kS) (agg:=false) (enc:=(eH (some 0))) n.passes s.Join (0:Nat) rfl rfl rfl rfl key_str rfl rfl rfl (zdv_hd rfl) rfl) ?_
 refine go_draw hΓ 8 rfl ?_
 refine eo_o rfl ((op_isNilP hΓ rfl rfl rfl rfl).1) ?_
 refine go_ops hΓ 3 rfl ?_
 refine j_cond rfl (fun hb=>?_) (fun hb=>?_)
 ·have h1:=cT h hb
  refine go hΓ 8 rfl ?_
  obtain rfl:=oSi h1
  exact fin_objs hΓ [_] (.inr rfl) rfl rfl rfl rfl (.inr ⟨HB.mk rfl,rfl⟩)
 ·have h2:=cF h hb
  refine go hΓ 1 rfl ?_
  refine j_draw hmix (by kernel_rfl) ?_
  obtain ⟨hg4,h3⟩:=gd_ok h2
  refine go hΓ 1 rfl ?_
  refine gl_o rfl (op_nilCheckH hg4 rfl) ?_
  refine gl_o rfl (op_fieldAddrH hΓ hg4 rfl rfl rfl rfl rfl rfl) ?_
  refine gl_o rfl (op_fieldAddrH hΓ hg4 rfl rfl rfl rfl rfl rfl) ?_
  obtain ⟨m5,hm5,h6⟩:=bi_ok h3
  refine gl_o rfl (op_loadH hΓ (enc:=Kgs) (bg:=5) m5 rfl rfl (ArU.l _ (arU_here (fun _ _=>rfl) hm5 m5)) rfl (g:=S m5.Join.By) rfl rfl) ?_
  refine go_draw hΓ 6 rfl ?_
  refine j_cond rfl (fun hb=>?_) (fun hb=>?_)
  ·have h7:=cT h6 hb
   refine go hΓ 8 rfl ?_
   obtain rfl:=oSi h7
   exact fin_objs hΓ [_] (.inr rfl) rfl rfl rfl rfl (.inr ⟨HB.mk rfl,rfl⟩)
  ·have h8:=cF h6 hb
   obtain ⟨hg10,h9⟩:=gd_ok h8
   refine go hΓ 3 rfl ?_
   refine eo_o rfl (op_nilCheckH hg10 rfl) ?_
   refine eo_o rfl (op_fieldAddrH hΓ hg10 rfl rfl rfl rfl rfl rfl) ?_
   obtain ⟨m11,hm11,h12⟩:=bi_ok h9
   refine eo_o rfl (op_loadH hΓ (enc:=Kgs) (bg:=5) m11 rfl rfl (ArU.l _ (arU_here (fun _ _=>rfl) hm11 m11)) rfl (g:=B m11.revoked) rfl rfl) ?_
   refine go_ops hΓ 3 rfl ?_
   refine j_cond rfl (fun hb=>?_) (fun hb=>?_)
   ·have h13:=cT h12 hb
    refine go hΓ 8 rfl ?_
    obtain rfl:=oSi h13
    exact fin_objs hΓ [_] (.inr rfl) rfl rfl rfl rfl (.inr ⟨HB.mk rfl,rfl⟩)
   ·have h14:=cF h12 hb
    obtain ⟨hg16,h15⟩:=gd_ok h14
    refine go hΓ 6 rfl ?_
    refine eo_o rfl (op_nilCheckH hg16 rfl) ?_
    refine eo_o rfl (op_fieldAddrH hΓ hg16 rfl rfl rfl rfl rfl rfl) ?_
    obtain ⟨m17,hm17,h18⟩:=bi_ok h15
    refine eo_u (nBe rfl) (opu_storeH hΓ (enc:=Kgs) (bg:=5) m17 (⟨m17.Join,true,m17.used⟩:Kbj) rfl rfl (ArU.l _ (arU_here (fun _ _=>rfl) hm17 (⟨m17.Join,true,m17.used⟩:Kbj))) rfl rfl (by intro e; cases e) rfl rfl rfl rfl rfl rfl rfl) ?_
    refine eo_hp [mOb kS false eB n.users,mOb kS false (eH (some 0)) n.passes,mOb kS true Kgo n.there,mOb kS false (eT 233 11 Kgp) n.story,.box 206 [.d (Sl eS n.d.Users),.d (Sl Kgj n.d.Owners),I n.d.Life,B n.d.Approve,.map 0,.map 1,.map 2,.map 3],.bag al.1 (arX (hSet al.2.1 ((mGet n.passes s.Join).getD 0) (⟨m17.Join,true,m17.used⟩:Kbj)) al.2.2.1 al.2.2.2.1 al.2.2.2.2.1 al.2.2.2.2.2) [],.box 37 (fS s)] rfl ?_
    refine go_ops hΓ 8 rfl ?_
    obtain rfl:=oSi h18
    exact fin_objs hΓ [_] (.inr rfl) rfl rfl rfl rfl (.inr ⟨HB.mk rfl,rfl⟩)
theorem Kjp {t:Str} {x:Kbg} {x2:Str} {r:Bool} (h:Keg t x x2=some r):EC Tryz.prog 269 [S t,.ptr 5 0,.ptr 6 0] [mOb kS false eB x.users,mOb kS false (eH (some 0)) x.passes,mOb kS true Kgo x.there,mOb kS false (eT 233 11 Kgp) x.story,.box 206 [.d (Sl eS x.d.Users),.d (Sl Kgj x.d.Owners),I x.d.Life,B x.d.Approve,.map 0,.map 1,.map 2,.map 3],.box 144 [.ptr 4 0],.box 9 [S x2]] fun g hp'=>g=B r∧hp'=[mOb kS false eB x.users,mOb kS false (eH (some 0)) x.passes,mOb kS true Kgo x.there,mOb kS false (eT 233 11 Kgp) x.story,.box 206 [.d (Sl eS x.d.Users),.d (Sl Kgj x.d.Owners),I x.d.Life,B x.d.Approve,.map 0,.map 1,.map 2,.map 3],.box 144 [.ptr 4 0],.box 9 [S x2]]:=by
 refine ec_enter (Fr.of 0 _) Tryz.func269 rfl (Fr.of_ok _) (nBe rfl) fun _=>?_
 refine go_in ?_
 unfold Keg at h
 refine go hΓ 6 rfl ?_
 refine j_draw hmix (by kernel_rfl) ?_
 obtain ⟨y1,hy1,h2⟩:=bi_ok h
 refine go hΓ 6 rfl ?_
 refine gl_callP (callable Tryz.func102 rfl rfl) (Kjl hy1) rfl rfl rfl rfl rfl rfl ?_
 refine go_draw hΓ 14 rfl ?_
 obtain rfl:=oSi h2
 exact fin_objs hΓ [] (.inr rfl) rfl rfl rfl rfl (.inl rfl)
theorem Kjq {s:List Str} {f:Kbg} {f2:Str} {r:Int} (h:Keh s f f2=some r):EC Tryz.prog 246 [.d (Sl eS s),.fn (.func 269) [] [.ptr 5 0,.ptr 6 0]] [mOb kS false eB f.users,mOb kS false (eH (some 0)) f.passes,mOb kS true Kgo f.there,mOb kS false (eT 233 11 Kgp) f.story,.box 206 [.d (Sl eS f.d.Users),.d (Sl Kgj f.d.Owners),I f.d.Life,B f.d.Approve,.map 0,.map 1,.map 2,.map 3],.box 144 [.ptr 4 0],.box 9 [S f2]] fun g hp'=>g=I r∧hp'=[mOb kS false eB f.users,mOb kS false (eH (some 0)) f.passes,mOb kS true Kgo f.there,mOb kS false (eT 233 11 Kgp) f.story,.box 206 [.d (Sl eS f.d.Users),.d (Sl Kgj f.d.Owners),I f.d.Life,B f.d.Approve,.map 0,.map 1,.map 2,.map 3],.box 144 [.ptr 4 0],.box 9 [S f2]]:=by
 refine ec_enter (Fr.of 0 _) Tryz.func246 rfl (Fr.of_ok _) (nBe rfl) fun _=>?_
 refine go_in ?_
 unfold Keh at h
 refine go hΓ 13 rfl ?_
 obtain ⟨q4,hq4,h5⟩:=bi_ok h
 refine j_bound 0 rfl fun hb7=>?_
 refine j_cutEZ (R:=fun a6=>q4=.go a6) (fun a6=>[]) (fun a6=>[mOb kS false eB f.users,mOb kS false (eH (some 0)) f.passes,mOb kS true Kgo f.there,mOb kS false (eT 233 11 Kgp) f.story,.box 206 [.d (Sl eS f.d.Users),.d (Sl Kgj f.d.Owners),I f.d.Life,B f.d.Approve,.map 0,.map 1,.map 2,.map 3],.box 144 [.ptr 4 0],.box 9 [S f2]]) ?_ ?_
 ·refine go hΓ 1 rfl ?_
  refine j_range s hq4 (fun i1 s2=>[(0,.d (Sl eS s)),(1,.fn (.func 269) [] [.ptr 5 0,.ptr 6 0]),(7,I (s.length:Int)),(8,I (i1:Int))]) (fun s2=>[mOb kS false eB f.users,mOb kS false (eH (some 0)) f.passes,mOb kS true Kgo f.there,mOb kS false (eT 233 11 Kgp) f.story,.box 206 [.d (Sl eS f.d.Users),.d (Sl Kgj f.d.Owners),I f.d.Life,B f.d.Approve,.map 0,.map 1,.map 2,.map 3],.box 144 [.ptr 4 0],.box 9 [S f2]]) ⟨⟨rfl,rfl,rfl,rfl,trivial⟩,[],rfl,.inl rfl⟩ (fun i1 x3 s2 y11 hx8 hlt hy9 hout10=>?_) (fun s2 hgo=>?_)
  ·refine go hΓ 6 rfl ?_
   refine j_condT rfl (decide_eq_true (Int.ofNat_lt.2 hlt)) ?_
   refine go hΓ 15 rfl ?_
   refine eo_o rfl (op_elemZ hΓ (enc:=eS) (getZ_nat hx8) rfl rfl rfl rfl rfl (fun _=>rfl)) ?_
   obtain ⟨y12,hy12,h13⟩:=bi_ok hy9
   refine go_ops hΓ 1 rfl ?_
   refine eo_callF [0,1,2,3,4,5,6] (B y12) [mOb kS false eB f.users,mOb kS false (eH (some 0)) f.passes,mOb kS true Kgo f.there,mOb kS false (eT 233 11 Kgp) f.story,.box 206 [.d (Sl eS f.d.Users),.d (Sl Kgj f.d.Owners),I f.d.Life,B f.d.Approve,.map 0,.map 1,.map 2,.map 3],.box 144 [.ptr 4 0],.box 9 [S f2]] (callable Tryz.func269 rfl rfl) (Kjp hy12) rfl (nBe rfl) rfl rfl rfl rfl rfl rfl rfl rfl rfl rfl ?_
   refine go_ops hΓ 2 rfl ?_
   refine j_cond rfl (fun hb=>?_) (fun hb=>?_)
   ·have h14:=cT h13 hb
    refine go hΓ 9 rfl ?_
    obtain ⟨v15,hv15,h16⟩:=bi_ok h14
    obtain rfl:=oSi h16
    obtain rfl:=hout10 _ rfl
    obtain rfl:=oSi h5
    refine go hΓ 4 rfl ?_
    obtain rfl:=oSi hv15
    exact fin_objs hΓ [] (.inr rfl) rfl rfl rfl rfl (.inl rfl)
   ·have h17:=cF h13 hb
    refine go hΓ 7 rfl ?_
    obtain rfl:=oSi h17
    exact ⟨_,rfl,⟨⟨rfl,rfl,rfl,get_eq rfl (w64_succ (Nat.lt_of_lt_of_le hlt hb7)),trivial⟩,[],rfl,.inl rfl⟩⟩
  ·subst hgo
   refine go hΓ 6 rfl ?_
   refine j_condF rfl (decide_eq_false (Int.lt_irrefl _)) ?_
   refine go hΓ 4 rfl ?_
   exact ⟨_,rfl,⟨trivial,[],rfl,.inl rfl⟩⟩
 ·intro a6 ha
  subst ha
  replace h5:=goI_l h5
  refine go hΓ 7 rfl ?_
  obtain rfl:=oSi h5
  exact fin_objs hΓ [] (.inr rfl) rfl rfl rfl rfl (.inl rfl)
theorem Kjr {s:List Str} {f:Kbg} {f2:Str} {r:Bool} (h:Kei s f f2=some r):EC Tryz.prog 158 [.d (Sl eS s),.fn (.func 269) [] [.ptr 5 0,.ptr 6 0]] [mOb kS false eB f.users,mOb kS false (eH (some 0)) f.passes,mOb kS true Kgo f.there,mOb kS false (eT 233 11 Kgp) f.story,.box 206 [.d (Sl eS f.d.Users),.d (Sl Kgj f.d.Owners),I f.d.Life,B f.d.Approve,.map 0,.map 1,.map 2,.map 3],.box 144 [.ptr 4 0],.box 9 [S f2]] fun g hp'=>g=B r∧hp'=[mOb kS false eB f.users,mOb kS false (eH (some 0)) f.passes,mOb kS true Kgo f.there,mOb kS false (eT 233 11 Kgp) f.story,.box 206 [.d (Sl eS f.d.Users),.d (Sl Kgj f.d.Owners),I f.d.Life,B f.d.Approve,.map 0,.map 1,.map 2,.map 3],.box 144 [.ptr 4 0],.box 9 [S f2]]:=by
 refine ec_enter (Fr.of 0 _) Tryz.func158 rfl (Fr.of_ok _) (nBe rfl) fun _=>?_
 refine go_in ?_
 unfold Kei at h
 obtain ⟨y1,hy1,h2⟩:=bi_ok h
 refine go hΓ 9 rfl ?_
 refine eo_callF [0,1,2,3,4,5,6] (I y1) [mOb kS false eB f.users,mOb kS false (eH (some 0)) f.passes,mOb kS true Kgo f.there,mOb kS false (eT 233 11 Kgp) f.story,.box 206 [.d (Sl eS f.d.Users),.d (Sl Kgj f.d.Owners),I f.d.Life,B f.d.Approve,.map 0,.map 1,.map 2,.map 3],.box 144 [.ptr 4 0],.box 9 [S f2]] (callable Tryz.func246 rfl rfl) (Kjq hy1) rfl (nBe rfl) rfl rfl rfl rfl rfl rfl rfl rfl rfl rfl ?_
 refine go_ops hΓ 5 rfl ?_
 obtain rfl:=oSi h2
 exact fin_objs hΓ [] (.inr rfl) rfl rfl rfl rfl (.inl rfl)
theorem Kjs {n:Kbg} {user:Str} {m:Kbe} {r:Bool} (h:Kej n user m=some r):EC Tryz.prog 191 [.ptr 4 0,S user,.agg [S m.Node,S m.User,S m.Name,S m.Public,.d (Sl eS m.Tags),I m.Joined,I m.Expires,B m.Approved]] [mOb kS false eB n.users,mOb kS false (eH (some 0)) n.passes,mOb kS true Kgo n.there,mOb kS false (eT 233 11 Kgp) n.story,.box 206 [.d (Sl eS n.d.Users),.d (Sl Kgj n.d.Owners),I n.d.Life,B n.d.Approve,.map 0,.map 1,.map 2,.map 3]] fun g hp'=>g=B r∧hp'=[mOb kS false eB n.users,mOb kS false (eH (some 0)) n.passes,mOb kS true Kgo n.there,mOb kS false (eT 233 11 Kgp) n.story,.box 206 [.d (Sl eS n.d.Users),.d (Sl Kgj n.d.Owners),I n.d.Life,B n.d.Approve,.map 0,.map 1,.map 2,.map 3]]:=by
 refine ec_enter (Fr.of 0 _) Tryz.func191 rfl (Fr.of_ok _) (nBe rfl) fun _=>?_
 refine go_in ?_
 unfold Kej at h
 refine go hΓ 2 rfl ?_
 refine eo_box rfl rfl rfl rfl (nBe rfl) ?_
 refine eo_box rfl rfl rfl rfl (nBe rfl) ?_
 refine eo_box rfl rfl rfl rfl (nBe rfl) ?_
 refine go_ops hΓ 12 rfl ?_
 refine j_cond rfl (fun hb=>?_) (fun hb=>?_)
 ·have h1:=cT h hb
  refine go hΓ 7 rfl ?_
  obtain rfl:=oSi h1
  exact fin_objs hΓ [_,_,_] (.inr rfl) rfl rfl rfl rfl (.inr ⟨HB.mk rfl,rfl⟩)
 ·have h2:=cF h hb
  obtain ⟨y3,hy3,h4⟩:=bi_ok h2
  refine go hΓ 7 rfl ?_
  refine eo_callF [0,1,2,3,4,5,6] (B y3) [mOb kS false eB n.users,mOb kS false (eH (some 0)) n.passes,mOb kS true Kgo n.there,mOb kS false (eT 233 11 Kgp) n.story,.box 206 [.d (Sl eS n.d.Users),.d (Sl Kgj n.d.Owners),I n.d.Life,B n.d.Approve,.map 0,.map 1,.map 2,.map 3],.box 144 [.ptr 4 0],.box 9 [S user],.box 77 [S m.Node,S m.User,S m.Name,S m.Public,.d (Sl eS m.Tags),I m.Joined,I m.Expires,B m.Approved]] (callable Tryz.func158 rfl rfl) (Kjr hy3) rfl (nBe rfl) rfl rfl rfl rfl rfl rfl rfl rfl rfl rfl ?_
  refine go_ops hΓ 4 rfl ?_
  obtain rfl:=oSi h4
  exact fin_objs hΓ [_,_,_] (.inr rfl) rfl rfl rfl rfl (.inr ⟨HB.mk rfl,rfl⟩)
set_option maxHeartbeats 8000000 in
theorem Kjt {n:Kbg} {s:Kbb} {m:Kbe} {al:BagT} {r:Int×Kbg×BagT} (h:Kek n s m al=some r):EC Tryz.prog 192 [.ptr 4 0,.agg (fS s),.agg [S m.Node,S m.User,S m.Name,S m.Public,.d (Sl eS m.Tags),I m.Joined,I m.Expires,B m.Approved]] [mOb kS false eB n.users,mOb kS false (eH (some 0)) n.passes,mOb kS true Kgo n.there,mOb kS false (eT 233 11 Kgp) n.story,.box 206 [.d (Sl eS n.d.Users),.d (Sl Kgj n.d.Owners),I n.d.Life,B n.d.Approve,.map 0,.map 1,.map 2,.map 3],bg al] fun g hp'=>g=I r.1∧hp'=[mOb kS false eB r.2.1.users,mOb kS false (eH (some 0)) r.2.1.passes,mOb kS true Kgo r.2.1.there,mOb kS false (eT 233 11 Kgp) r.2.1.story,.box 206 [.d (Sl eS r.2.1.d.Users),.d (Sl Kgj r.2.1.d.Owners),I r.2.1.d.Life,B r.2.1.d.Approve,.map 0,.map 1,.map 2,.map 3],bg r.2.2]:=by
 refine ec_enterC (Fr.of 0 _) Tryz.func192 rfl (Fr.of_ok _) (nBe rfl) fun _=>?_
 refine go_in ?_
 unfold Kek at h
 refine go hΓ 2 rfl ?_
 refine eo_box rfl rfl rfl rfl (nBe rfl) ?_
 refine eo_box rfl rfl rfl rfl (nBe rfl) ?_
 obtain ⟨q1,hq1,h2⟩:=bi_ok h
 refine go_ops hΓ 15 rfl ?_
 refine j_cutSZ (q:=q1) (fun a3=>[(0,.ptr 4 0),(4,.ptr 6 0),(5,.ptr 7 0),(7,B a3.2)]) (fun a3=>[mOb kS false eB n.users,mOb kS false (eH (some 0)) n.passes,mOb kS true Kgo n.there,mOb kS false (eT 233 11 Kgp) n.story,.box 206 [.d (Sl eS n.d.Users),.d (Sl Kgj n.d.Owners),I n.d.Life,B n.d.Approve,.map 0,.map 1,.map 2,.map 3],bg al,.box 37 (fS s),.box 77 [S a3.1.Node,S a3.1.User,S a3.1.Name,S a3.1.Public,.d (Sl eS a3.1.Tags),I a3.1.Joined,I a3.1.Expires,B a3.1.Approved]]) ?_ ?_
 ·refine go hΓ 7 rfl ?_
  refine j_cond rfl (fun hb=>?_) (fun hb=>?_)
  ·have h4:=cT hq1 hb
   refine go hΓ 7 rfl ?_
   refine j_cond rfl (fun hb=>?_) (fun hb=>?_)
   ·have h5:=cT h4 hb
    refine go hΓ 8 rfl ?_
    obtain ⟨v6,hv6,h7⟩:=bi_ok h5
    obtain rfl:=oSi h7
    obtain rfl:=oSi h2
    refine go hΓ 2 rfl ?_
    refine cv_here ?_
    obtain rfl:=oSi hv6
    exact fin_objs hΓ [_,_] (.inr rfl) rfl rfl rfl rfl (.inr ⟨HB.mk rfl,rfl⟩)
   ·have h8:=cF h4 hb
    refine go hΓ 4 rfl ?_
    refine eo_store hΓ rfl rfl rfl rfl rfl rfl rfl rfl (nBe rfl) ?_
    refine eo_hp [mOb kS false eB n.users,mOb kS false (eH (some 0)) n.passes,mOb kS true Kgo n.there,mOb kS false (eT 233 11 Kgp) n.story,.box 206 [.d (Sl eS n.d.Users),.d (Sl Kgj n.d.Owners),I n.d.Life,B n.d.Approve,.map 0,.map 1,.map 2,.map 3],bg al,.box 37 (fS s),.box 77 [S m.Node,S m.User,S m.Name,S m.Public,.d (Sl eS m.Tags),I m.Joined,I m.Expires,B true]] rfl ?_
    refine go_ops hΓ 2 rfl ?_
    obtain rfl:=oSi h8
    exact ⟨_,rfl,⟨⟨rfl,rfl,rfl,rfl,trivial⟩,[],rfl,.inl rfl⟩⟩
  ·have h9:=cF hq1 hb
   refine go hΓ 6 rfl ?_
   refine j_cond rfl (fun hb=>?_) (fun hb=>?_)
   ·have h10:=cT h9 hb
    obtain ⟨y11,hy11,h12⟩:=bi_ok h10
    refine go hΓ 6 rfl ?_
    refine eo_callF [0,1,2,3,4] (B y11) [mOb kS false eB n.users,mOb kS false (eH (some 0)) n.passes,mOb kS true Kgo n.there,mOb kS false (eT 233 11 Kgp) n.story,.box 206 [.d (Sl eS n.d.Users),.d (Sl Kgj n.d.Owners),I n.d.Life,B n.d.Approve,.map 0,.map 1,.map 2,.map 3],bg al,.box 37 (fS s),.box 77 [S m.Node,S m.User,S m.Name,S m.Public,.d (Sl eS m.Tags),I m.Joined,I m.Expires,B m.Approved]] (callable Tryz.func265 rfl rfl) (Kje hy11) rfl (nBe rfl) rfl rfl rfl rfl rfl rfl rfl rfl rfl rfl ?_
    refine go_ops hΓ 2 rfl ?_
    refine j_cond rfl (fun hb=>?_) (fun hb=>?_)
    ·have h13:=cT h12 hb
     refine go hΓ 8 rfl ?_
     obtain ⟨v14,hv14,h15⟩:=bi_ok h13
     obtain rfl:=oSi h15
     obtain rfl:=oSi h2
     refine go hΓ 2 rfl ?_
     refine cv_here ?_
     obtain rfl:=oSi hv14
     exact fin_objs hΓ [_,_] (.inr rfl) rfl rfl rfl rfl (.inr ⟨HB.mk rfl,rfl⟩)
    ·have h16:=cF h12 hb
     refine go hΓ 2 rfl ?_
     refine j_drawE [.dead,.dead,.dead,.dead,.dead,.dead,.box 37 (fS s),.box 77 [S m.Node,S m.User,S m.Name,S m.Public,.d (Sl eS m.Tags),I m.Joined,I m.Expires,B m.Approved]] [1,4,6] [7,9,11] [9,11] hmix (by kernel_rfl) (by kernel_rfl) ⟨rfl,rfl,trivial⟩ (nBe rfl) ?_
     obtain ⟨y17,hy17,h18⟩:=bi_ok h16
     refine go_E hΓ 7 rfl ?_
     refine ge_h [mOb kS false eB n.users,mOb kS false (eH (some 0)) n.passes,mOb kS true Kgo n.there,mOb kS false (eT 233 11 Kgp) n.story,.box 206 [.d (Sl eS n.d.Users),.d (Sl Kgj n.d.Owners),I n.d.Life,B n.d.Approve,.map 0,.map 1,.map 2,.map 3],bg al,.box 37 (fS s),.box 77 [S m.Node,S m.User,S m.Name,S m.Public,.d (Sl eS m.Tags),I m.Joined,I m.Expires,B m.Approved]] rfl rfl rfl (st_st ⟨rfl,rfl,trivial⟩) (qte_callF [0,1,2,3,4] (I y17) [mOb kS false eB n.users,mOb kS false (eH (some 0)) n.passes,mOb kS true Kgo n.there,mOb kS false (eT 233 11 Kgp) n.story,.box 206 [.d (Sl eS n.d.Users),.d (Sl Kgj n.d.Owners),I n.d.Life,B n.d.Approve,.map 0,.map 1,.map 2,.map 3],bg al,.box 37 (fS s),.box 77 [S m.Node,S m.User,S m.Name,S m.Public,.d (Sl eS m.Tags),I m.Joined,I m.Expires,B m.Approved]] (callable Tryz.func266 rfl rfl) (Kjg hy17) rfl rfl rfl rfl rfl rfl rfl rfl rfl rfl) ?_
     refine go_E hΓ 1 rfl ?_
     refine ge_h0 [mOb kS false eB n.users,mOb kS false (eH (some 0)) n.passes,mOb kS true Kgo n.there,mOb kS false (eT 233 11 Kgp) n.story,.box 206 [.d (Sl eS n.d.Users),.d (Sl Kgj n.d.Owners),I n.d.Life,B n.d.Approve,.map 0,.map 1,.map 2,.map 3],bg al,.box 37 (fS s),.box 77 [S m.Node,S m.User,S m.Name,S s.Public,.d (Sl eS m.Tags),I m.Joined,I m.Expires,B m.Approved]] rfl rfl (brk_st rfl) (qte_u (opu_store2 hΓ rfl rfl rfl rfl rfl rfl rfl rfl rfl)) ?_
     refine go_E hΓ 1 rfl ?_
     refine ge_h0 [mOb kS false eB n.users,mOb kS false (eH (some 0)) n.passes,mOb kS true Kgo n.there,mOb kS false (eT 233 11 Kgp) n.story,.box 206 [.d (Sl eS n.d.Users),.d (Sl Kgj n.d.Owners),I n.d.Life,B n.d.Approve,.map 0,.map 1,.map 2,.map 3],bg al,.box 37 (fS s),.box 77 [S m.Node,S m.User,S m.Name,S s.Public,.d (Sl eS m.Tags),I m.Joined,I y17,B m.Approved]] rfl rfl (brk_st rfl) (qte_u (opu_store2 hΓ rfl rfl rfl rfl rfl rfl rfl rfl rfl)) ?_
     refine go_E hΓ 1 rfl ?_
     refine ge_fin ?_
     refine go hΓ 1 rfl ?_
     obtain rfl:=oSi h18
     exact ⟨_,rfl,⟨⟨rfl,rfl,rfl,rfl,trivial⟩,[],rfl,.inl rfl⟩⟩
   ·have h19:=cF h9 hb
    refine go hΓ 6 rfl ?_
    refine j_cond rfl (fun hb=>?_) (fun hb=>?_)
    ·have h20:=cT h19 hb
     refine go hΓ 10 rfl ?_
     refine j_cond rfl (fun hb=>?_) (fun hb=>?_)
     ·have h21:=cT h20 hb
      refine go hΓ 8 rfl ?_
      obtain ⟨v22,hv22,h23⟩:=bi_ok h21
      obtain rfl:=oSi h23
      obtain rfl:=oSi h2
      refine go hΓ 2 rfl ?_
      refine cv_here ?_
      obtain rfl:=oSi hv22
      exact fin_objs hΓ [_,_] (.inr rfl) rfl rfl rfl rfl (.inr ⟨HB.mk rfl,rfl⟩)
     ·have h24:=cF h20 hb
      refine go hΓ 6 rfl ?_
      refine eo_store hΓ rfl rfl rfl rfl rfl rfl rfl rfl (nBe rfl) ?_
      refine eo_hp [mOb kS false eB n.users,mOb kS false (eH (some 0)) n.passes,mOb kS true Kgo n.there,mOb kS false (eT 233 11 Kgp) n.story,.box 206 [.d (Sl eS n.d.Users),.d (Sl Kgj n.d.Owners),I n.d.Life,B n.d.Approve,.map 0,.map 1,.map 2,.map 3],bg al,.box 37 (fS s),.box 77 [S m.Node,S m.User,S s.Name,S m.Public,.d (Sl eS m.Tags),I m.Joined,I m.Expires,B m.Approved]] rfl ?_
      refine go_ops hΓ 2 rfl ?_
      obtain rfl:=oSi h24
      exact ⟨_,rfl,⟨⟨rfl,rfl,rfl,rfl,trivial⟩,[],rfl,.inl rfl⟩⟩
    ·have h25:=cF h19 hb
     refine go hΓ 6 rfl ?_
     refine j_cond rfl (fun hb=>?_) (fun hb=>?_)
     ·have h26:=cT h25 hb
      refine go hΓ 9 rfl ?_
      refine j_cond rfl (fun hb=>?_) (fun hb=>?_)
      ·have h27:=cT h26 hb
       refine go hΓ 8 rfl ?_
       obtain ⟨v28,hv28,h29⟩:=bi_ok h27
       obtain rfl:=oSi h29
       obtain rfl:=oSi h2
       refine go hΓ 2 rfl ?_
       refine cv_here ?_
       obtain rfl:=oSi hv28
       exact fin_objs hΓ [_,_] (.inr rfl) rfl rfl rfl rfl (.inr ⟨HB.mk rfl,rfl⟩)
      ·have h30:=cF h26 hb
       obtain ⟨y31,hy31,h32⟩:=bi_ok h30
       refine go hΓ 10 rfl ?_
       refine eo_callF [0,1,2,3,4] (I y31) [mOb kS false eB n.users,mOb kS false (eH (some 0)) n.passes,mOb kS true Kgo n.there,mOb kS false (eT 233 11 Kgp) n.story,.box 206 [.d (Sl eS n.d.Users),.d (Sl Kgj n.d.Owners),I n.d.Life,B n.d.Approve,.map 0,.map 1,.map 2,.map 3],bg al,.box 37 (fS s),.box 77 [S m.Node,S m.User,S m.Name,S m.Public,.d (Sl eS m.Tags),I m.Joined,I m.Expires,B m.Approved]] (callable Tryz.func268 rfl rfl) (Kjm hy31) rfl (nBe rfl) rfl rfl rfl rfl rfl rfl rfl rfl rfl rfl ?_
       refine go_ops hΓ 9 rfl ?_
       refine j_cond rfl (fun hb=>?_) (fun hb=>?_)
       ·have h33:=cT h32 hb
        refine go hΓ 9 rfl ?_
        obtain ⟨v34,hv34,h35⟩:=bi_ok h33
        obtain rfl:=oSi h35
        obtain rfl:=oSi h2
        refine go hΓ 2 rfl ?_
        refine cv_here ?_
        obtain rfl:=oSi hv34
        exact fin_objs hΓ [_,_] (.inr rfl) rfl rfl rfl rfl (.inr ⟨HB.mk rfl,rfl⟩)
       ·have h36:=cF h32 hb
        obtain ⟨y37,hy37,h38⟩:=bi_ok h36
        refine go hΓ 5 rfl ?_
        refine eo_callP (callable Tryz.func213 rfl rfl) (Pure.rows (Kjf hy37) rfl rfl) rfl (nBe rfl) rfl rfl rfl rfl rfl ?_
        refine go_ops hΓ 1 rfl ?_
        refine eo_store hΓ rfl rfl rfl rfl rfl rfl rfl rfl (nBe rfl) ?_
        refine eo_hp [mOb kS false eB n.users,mOb kS false (eH (some 0)) n.passes,mOb kS true Kgo n.there,mOb kS false (eT 233 11 Kgp) n.story,.box 206 [.d (Sl eS n.d.Users),.d (Sl Kgj n.d.Owners),I n.d.Life,B n.d.Approve,.map 0,.map 1,.map 2,.map 3],bg al,.box 37 (fS s),.box 77 [S m.Node,S [],S m.Name,S m.Public,.d (Sl eS m.Tags),I m.Joined,I m.Expires,B m.Approved]] rfl ?_
        refine go_ops hΓ 1 rfl ?_
        refine eo_store hΓ rfl rfl rfl rfl rfl rfl rfl rfl (nBe rfl) ?_
        refine eo_hp [mOb kS false eB n.users,mOb kS false (eH (some 0)) n.passes,mOb kS true Kgo n.there,mOb kS false (eT 233 11 Kgp) n.story,.box 206 [.d (Sl eS n.d.Users),.d (Sl Kgj n.d.Owners),I n.d.Life,B n.d.Approve,.map 0,.map 1,.map 2,.map 3],bg al,.box 37 (fS s),.box 77 [S m.Node,S [],S m.Name,S m.Public,.d (Sl eS y37),I m.Joined,I m.Expires,B m.Approved]] rfl ?_
        refine go_ops hΓ 1 rfl ?_
        refine eo_store hΓ rfl rfl rfl rfl rfl rfl rfl rfl (nBe rfl) ?_
        refine eo_hp [mOb kS false eB n.users,mOb kS false (eH (some 0)) n.passes,mOb kS true Kgo n.there,mOb kS false (eT 233 11 Kgp) n.story,.box 206 [.d (Sl eS n.d.Users),.d (Sl Kgj n.d.Owners),I n.d.Life,B n.d.Approve,.map 0,.map 1,.map 2,.map 3],bg al,.box 37 (fS s),.box 77 [S m.Node,S [],S m.Name,S m.Public,.d (Sl eS y37),I m.Joined,I 345686400,B m.Approved]] rfl ?_
        refine go_ops hΓ 2 rfl ?_
        obtain rfl:=oSi h38
        exact ⟨_,rfl,⟨⟨rfl,rfl,rfl,rfl,trivial⟩,[],rfl,.inl rfl⟩⟩
     ·have h39:=cF h25 hb
      refine go hΓ 6 rfl ?_
      refine j_cond rfl (fun hb=>?_) (fun hb=>?_)
      ·have h40:=cT h39 hb
       refine go hΓ 10 rfl ?_
       refine j_cond rfl (fun hb=>?_) (fun hb=>?_)
       ·have h41:=cT h40 hb
        refine go hΓ 8 rfl ?_
        obtain ⟨v42,hv42,h43⟩:=bi_ok h41
        obtain rfl:=oSi h43
        obtain rfl:=oSi h2
        refine go hΓ 2 rfl ?_
        refine cv_here ?_
        obtain rfl:=oSi hv42
        exact fin_objs hΓ [_,_] (.inr rfl) rfl rfl rfl rfl (.inr ⟨HB.mk rfl,rfl⟩)
       ·have h44:=cF h40 hb
        refine go hΓ 6 rfl ?_
        refine eo_store hΓ rfl rfl rfl rfl rfl rfl rfl rfl (nBe rfl) ?_
        refine eo_hp [mOb kS false eB n.users,mOb kS false (eH (some 0)) n.passes,mOb kS true Kgo n.there,mOb kS false (eT 233 11 Kgp) n.story,.box 206 [.d (Sl eS n.d.Users),.d (Sl Kgj n.d.Owners),I n.d.Life,B n.d.Approve,.map 0,.map 1,.map 2,.map 3],bg al,.box 37 (fS s),.box 77 [S m.Node,S m.User,S m.Name,S m.Public,.d (Sl eS m.Tags),I m.Joined,I s.At,B m.Approved]] rfl ?_
        refine go_ops hΓ 2 rfl ?_
        obtain rfl:=oSi h44
        exact ⟨_,rfl,⟨⟨rfl,rfl,rfl,rfl,trivial⟩,[],rfl,.inl rfl⟩⟩
      ·have h45:=cF h39 hb
       refine go hΓ 1 rfl ?_
       refine j_drawE [.dead,.dead,.dead,.dead,.box 206 [.d (Sl eS n.d.Users),.d (Sl Kgj n.d.Owners),I n.d.Life,B n.d.Approve,.map 0,.map 1,.map 2,.map 3],.dead,.box 37 (fS s)] [3,5] [6] [] hmix (by kernel_rfl) (by kernel_rfl) ⟨rfl,rfl,trivial⟩ (nBe rfl) ?_
       refine go_E hΓ 6 rfl ?_
       refine ge_h0 [mOb kS false eB n.users,mOb kS false (eH (some 0)) n.passes,mOb kS true Kgo (mDel n.there s.Node),mOb kS false (eT 233 11 Kgp) n.story,.box 206 [.d (Sl eS n.d.Users),.d (Sl Kgj n.d.Owners),I n.d.Life,B n.d.Approve,.map 0,.map 1,.map 2,.map 3],bg al,.box 37 (fS s),.box 77 [S m.Node,S m.User,S m.Name,S m.Public,.d (Sl eS m.Tags),I m.Joined,I m.Expires,B m.Approved]] rfl rfl (st_st ⟨rfl,rfl,trivial⟩) (qte_s (ops_delete hΓ (kv:=kS) (agg:=true) (enc:=Kgo) (id:=2) n.there s.Node rfl rfl rfl key_str rfl rfl rfl rfl)) ?_
       refine ge_fin ?_
       refine go hΓ 2 rfl ?_
       refine j_drawE [.dead,.dead,.dead,mOb kS false (eT 233 11 Kgp) n.story,.box 206 [.d (Sl eS n.d.Users),.d (Sl Kgj n.d.Owners),I n.d.Life,B n.d.Approve,.map 0,.map 1,.map 2,.map 3],.dead,.box 37 (fS s)] [3,5,9,11,12,14] [17,18] [18] hmix (by kernel_rfl) (by kernel_rfl) ⟨rfl,rfl,rfl,trivial⟩ (nBe rfl) ?_
       refine go_E hΓ 12 rfl ?_
       refine ge_p rfl (fun hp hs=>op_lookupT hΓ (kv:=kS) (te:=233) (sz:=11) (enc:=Kgp) n.story s.Node rfl rfl rfl rfl key_str rfl (hs 3 _ rfl rfl) rfl rfl rfl) rfl ?_
       refine go_E hΓ 2 rfl ?_
       refine ge_q rfl (.inl rfl) (fun _ _=>qte_of_qt (qt_p (op_build hΓ (gs:=[I s.At,S [],S [],S [],S [],.d (Sl eS []),I 0,I 0,B false,B true,B false]) rfl rfl rfl rfl rfl rfl))) ?_
       refine ge_litT hΓ (enc:=Kgp) [(⟨s.At,(⟨[],[],[],[],[],0,0,false⟩:Kbe),true,false⟩:Kbf)] rfl rfl rfl rfl rfl rfl rfl rfl rfl rfl rfl rfl ?_
       obtain ⟨y46,hy46,h47⟩:=bi_ok h45
       refine ge_h [mOb kS false eB n.users,mOb kS false (eH (some 0)) n.passes,mOb kS true Kgo (mDel n.there s.Node),mOb kS false (eT 233 11 Kgp) n.story,.box 206 [.d (Sl eS n.d.Users),.d (Sl Kgj n.d.Owners),I n.d.Life,B n.d.Approve,.map 0,.map 1,.map 2,.map 3],.bag y46.2 (arX al.2.1 al.2.2.1 al.2.2.2.1 al.2.2.2.2.1 al.2.2.2.2.2) [],.box 37 (fS s),.box 77 [S m.Node,S m.User,S m.Name,S m.Public,.d (Sl eS m.Tags),I m.Joined,I m.Expires,B m.Approved]] rfl rfl rfl (st_st ⟨rfl,rfl,rfl,trivial⟩) (qte_s (ops_appT hΓ (enc:=Kgp) (bg:=5) hy46 rfl rfl rfl rfl rfl rfl rfl rfl (fun _=>rfl) rfl rfl)) ?_
       refine ge_h0 [mOb kS false eB n.users,mOb kS false (eH (some 0)) n.passes,mOb kS true Kgo (mDel n.there s.Node),mOb kS false (eT 233 11 Kgp) (mSet n.story s.Node y46.1),.box 206 [.d (Sl eS n.d.Users),.d (Sl Kgj n.d.Owners),I n.d.Life,B n.d.Approve,.map 0,.map 1,.map 2,.map 3],.bag y46.2 (arX al.2.1 al.2.2.1 al.2.2.2.1 al.2.2.2.2.1 al.2.2.2.2.2) [],.box 37 (fS s),.box 77 [S m.Node,S m.User,S m.Name,S m.Public,.d (Sl eS m.Tags),I m.Joined,I m.Expires,B m.Approved]] rfl rfl (brk_st rfl) (qte_u (opu_mapUpdate hΓ (kv:=kS) (agg:=false) (enc:=(eT 233 11 Kgp)) (id:=3) n.story s.Node y46.1 rfl rfl rfl key_str rfl rfl rfl rfl rfl)) ?_
       refine ge_fin ?_
       refine go hΓ 8 rfl ?_
       obtain ⟨v48,hv48,h49⟩:=bi_ok h47
       obtain rfl:=oSi h49
       obtain rfl:=oSi h2
       refine go hΓ 2 rfl ?_
       refine cv_here ?_
       obtain rfl:=oSi hv48
       exact fin_objs hΓ [_,_] (.inr rfl) rfl rfl rfl rfl (.inr ⟨HB.mk rfl,rfl⟩)
 ·intro a3 ha
  subst ha
  replace h2:=orI_l h2
  obtain ⟨y50,hy50,h51⟩:=bi_ok h2
  refine go hΓ 8 rfl ?_
  refine eo_callF [0,1,2,3,4,5] (.tup []) [mOb kS false eB y50.1.users,mOb kS false (eH (some 0)) y50.1.passes,mOb kS true Kgo y50.1.there,mOb kS false (eT 233 11 Kgp) y50.1.story,.box 206 [.d (Sl eS y50.1.d.Users),.d (Sl Kgj y50.1.d.Owners),I y50.1.d.Life,B y50.1.d.Approve,.map 0,.map 1,.map 2,.map 3],bg y50.2,.box 37 (fS s),.box 77 [S a3.1.Node,S a3.1.User,S a3.1.Name,S a3.1.Public,.d (Sl eS a3.1.Tags),I a3.1.Joined,I a3.1.Expires,B a3.1.Approved]] (callable Tryz.func267 rfl rfl) (Kjh hy50) rfl (nBe rfl) rfl rfl rfl rfl rfl rfl rfl rfl rfl rfl ?_
  refine go_ops hΓ 8 rfl ?_
  refine cv_here ?_
  obtain rfl:=oSi h51
  exact fin_objs hΓ [_,_] (.inr rfl) rfl rfl rfl rfl (.inr ⟨HB.mk rfl,rfl⟩)
set_option maxHeartbeats 8000000 in
theorem Kju {n:Kbg} {s:Kbb} {al:BagT} {r:Int×Kbg×BagT} (h:Kel n s al=some r):EC Tryz.prog 87 [.ptr 4 0,.agg (fS s)] [mOb kS false eB n.users,mOb kS false (eH (some 0)) n.passes,mOb kS true Kgo n.there,mOb kS false (eT 233 11 Kgp) n.story,.box 206 [.d (Sl eS n.d.Users),.d (Sl Kgj n.d.Owners),I n.d.Life,B n.d.Approve,.map 0,.map 1,.map 2,.map 3],bg al] fun g hp'=>g=I r.1∧hp'=[mOb kS false eB r.2.1.users,mOb kS false (eH (some 0)) r.2.1.passes,mOb kS true Kgo r.2.1.there,mOb kS false (eT 233 11 Kgp) r.2.1.story,.box 206 [.d (Sl eS r.2.1.d.Users),.d (Sl Kgj r.2.1.d.Owners),I r.2.1.d.Life,B r.2.1.d.Approve,.map 0,.map 1,.map 2,.map 3],bg r.2.2]:=by
 refine ec_enterC (Fr.of 0 _) Tryz.func87 rfl (Fr.of_ok _) (nBe rfl) fun _=>?_
 refine go_in ?_
 unfold Kel at h
 refine go hΓ 2 rfl ?_
 refine eo_box rfl rfl rfl rfl (nBe rfl) ?_
 refine go_ops hΓ 11 rfl ?_
 refine j_cond rfl (fun hb=>?_) (fun hb=>?_)
 ·have h1:=cT h hb
  obtain ⟨y2,hy2,h3⟩:=bi_ok h1
  refine go hΓ 4 rfl ?_
  refine eo_callF [0,1,2,3,4,5] (I y2.1) [mOb kS false eB y2.2.1.users,mOb kS false (eH (some 0)) y2.2.1.passes,mOb kS true Kgo y2.2.1.there,mOb kS false (eT 233 11 Kgp) y2.2.1.story,.box 206 [.d (Sl eS y2.2.1.d.Users),.d (Sl Kgj y2.2.1.d.Owners),I y2.2.1.d.Life,B y2.2.1.d.Approve,.map 0,.map 1,.map 2,.map 3],bg y2.2.2,.box 37 (fS s)] (callable Tryz.func188 rfl rfl) (Kji hy2) rfl (nBe rfl) rfl rfl rfl rfl rfl rfl rfl rfl rfl rfl ?_
  refine go_ops hΓ 5 rfl ?_
  refine cv_here ?_
  obtain rfl:=oSi h3
  exact fin_objs hΓ [_] (.inr rfl) rfl rfl rfl rfl (.inr ⟨HB.mk rfl,rfl⟩)
 ·have h4:=cF h hb
  refine go hΓ 4 rfl ?_
  refine j_draw hmix (by kernel_rfl) ?_
  refine go hΓ 6 rfl ?_
  refine gl_o rfl (op_lookup hΓ (kv:=kS) (agg:=false) (enc:=eB) n.users s.By (false:Bool) rfl rfl rfl rfl key_str rfl rfl rfl rfl rfl rfl rfl) ?_
  refine go_draw hΓ 3 rfl ?_
  refine j_cond rfl (fun hb=>?_) (fun hb=>?_)
  ·have h5:=cT h4 hb
   refine go hΓ 7 rfl ?_
   refine cv_here ?_
   obtain rfl:=oSi h5
   exact fin_objs hΓ [_] (.inr rfl) rfl rfl rfl rfl (.inr ⟨HB.mk rfl,rfl⟩)
  ·have h6:=cF h4 hb
   refine go hΓ 16 rfl ?_
   refine j_cond rfl (fun hb=>?_) (fun hb=>?_)
   ·have h7:=cT h6 hb
    obtain ⟨y8,hy8,h9⟩:=bi_ok h7
    refine go hΓ 4 rfl ?_
    refine eo_callF [0,1,2,3,4,5] (I y8.1) [mOb kS false eB y8.2.1.users,mOb kS false (eH (some 0)) y8.2.1.passes,mOb kS true Kgo y8.2.1.there,mOb kS false (eT 233 11 Kgp) y8.2.1.story,.box 206 [.d (Sl eS y8.2.1.d.Users),.d (Sl Kgj y8.2.1.d.Owners),I y8.2.1.d.Life,B y8.2.1.d.Approve,.map 0,.map 1,.map 2,.map 3],bg y8.2.2,.box 37 (fS s)] (callable Tryz.func189 rfl rfl) (Kjn hy8) rfl (nBe rfl) rfl rfl rfl rfl rfl rfl rfl rfl rfl rfl ?_
    refine go_ops hΓ 6 rfl ?_
    refine cv_here ?_
    obtain rfl:=oSi h9
    exact fin_objs hΓ [_] (.inr rfl) rfl rfl rfl rfl (.inr ⟨HB.mk rfl,rfl⟩)
   ·have h10:=cF h6 hb
    refine go hΓ 6 rfl ?_
    refine j_cond rfl (fun hb=>?_) (fun hb=>?_)
    ·have h11:=cT h10 hb
     obtain ⟨y12,hy12,h13⟩:=bi_ok h11
     refine go hΓ 4 rfl ?_
     refine eo_callF [0,1,2,3,4,5] (I y12.1) [mOb kS false eB n.users,mOb kS false (eH (some 0)) n.passes,mOb kS true Kgo n.there,mOb kS false (eT 233 11 Kgp) n.story,.box 206 [.d (Sl eS n.d.Users),.d (Sl Kgj n.d.Owners),I n.d.Life,B n.d.Approve,.map 0,.map 1,.map 2,.map 3],bg y12.2,.box 37 (fS s)] (callable Tryz.func190 rfl rfl) (Kjo hy12) rfl (nBe rfl) rfl rfl rfl rfl rfl rfl rfl rfl rfl rfl ?_
     refine go_ops hΓ 6 rfl ?_
     refine cv_here ?_
     obtain rfl:=oSi h13
     exact fin_objs hΓ [_] (.inr rfl) rfl rfl rfl rfl (.inr ⟨HB.mk rfl,rfl⟩)
    ·have h14:=cF h10 hb
     refine go hΓ 4 rfl ?_
     refine j_drawE [.dead,.dead,mOb kS true Kgo n.there,.dead,.box 206 [.d (Sl eS n.d.Users),.d (Sl Kgj n.d.Owners),I n.d.Life,B n.d.Approve,.map 0,.map 1,.map 2,.map 3],.dead,.box 37 (fS s)] [3,5,6] [10,11] [] hmix (by kernel_rfl) (by kernel_rfl) ⟨rfl,rfl,rfl,trivial⟩ (nBe rfl) ?_
     refine go_E hΓ 6 rfl ?_
     refine ge_p rfl (fun hp hs=>op_lookupOk hΓ (kv:=kS) (agg:=true) (enc:=Kgo) n.there s.Node ((⟨[],[],[],[],[],0,0,false⟩:Kbe):Kbe) rfl rfl rfl rfl key_str rfl (hs 2 _ rfl rfl) rfl rfl rfl rfl rfl) rfl ?_
     refine go_E hΓ 3 rfl ?_
     refine ge_h [mOb kS false eB n.users,mOb kS false (eH (some 0)) n.passes,mOb kS true Kgo n.there,mOb kS false (eT 233 11 Kgp) n.story,.box 206 [.d (Sl eS n.d.Users),.d (Sl Kgj n.d.Owners),I n.d.Life,B n.d.Approve,.map 0,.map 1,.map 2,.map 3],bg al,.box 37 (fS s),.box 77 [S [],S [],S [],S [],.d (Sl eS []),I 0,I 0,B false]] rfl rfl rfl (st_st ⟨rfl,rfl,rfl,trivial⟩) (qte_s (ops_alloc hΓ (hi:=show Γ 77=some ⟨_,_,_,_⟩ from rfl) rfl)) ?_
     refine ge_h0 [mOb kS false eB n.users,mOb kS false (eH (some 0)) n.passes,mOb kS true Kgo n.there,mOb kS false (eT 233 11 Kgp) n.story,.box 206 [.d (Sl eS n.d.Users),.d (Sl Kgj n.d.Owners),I n.d.Life,B n.d.Approve,.map 0,.map 1,.map 2,.map 3],bg al,.box 37 (fS s),.box 77 [S (((mGet n.there s.Node).getD (⟨[],[],[],[],[],0,0,false⟩:Kbe)).Node),S (((mGet n.there s.Node).getD (⟨[],[],[],[],[],0,0,false⟩:Kbe)).User),S (((mGet n.there s.Node).getD (⟨[],[],[],[],[],0,0,false⟩:Kbe)).Name),S (((mGet n.there s.Node).getD (⟨[],[],[],[],[],0,0,false⟩:Kbe)).Public),.d (Sl eS (((mGet n.there s.Node).getD (⟨[],[],[],[],[],0,0,false⟩:Kbe)).Tags)),I (((mGet n.there s.Node).getD (⟨[],[],[],[],[],0,0,false⟩:Kbe)).Joined),I (((mGet n.there s.Node).getD (⟨[],[],[],[],[],0,0,false⟩:Kbe)).Expires),B (((mGet n.there s.Node).getD (⟨[],[],[],[],[],0,0,false⟩:Kbe)).Approved)]] rfl rfl (st_st ⟨rfl,rfl,rfl,trivial⟩) (qte_u (opu_store2 hΓ rfl rfl rfl rfl rfl rfl rfl rfl rfl)) ?_
     refine go_E hΓ 1 rfl ?_
     refine ge_fin ?_
     refine go hΓ 8 rfl ?_
     refine j_cond rfl (fun hb=>?_) (fun hb=>?_)
     ·have h15:=cT h14 hb
      refine go hΓ 7 rfl ?_
      refine cv_here ?_
      obtain rfl:=oSi h15
      exact fin_objs hΓ [_,_] (.inr rfl) rfl rfl rfl rfl (.inr ⟨HB.mk rfl,rfl⟩)
     ·have h16:=cF h14 hb
      refine go hΓ 9 rfl ?_
      obtain ⟨q17,hq17,h18⟩:=bi_ok h16
      refine o_cut 7 [(0,.ptr 4 0),(3,.ptr 6 0),(5,.ptr 7 0),(55,B q17)] [mOb kS false eB n.users,mOb kS false (eH (some 0)) n.passes,mOb kS true Kgo n.there,mOb kS false (eT 233 11 Kgp) n.story,.box 206 [.d (Sl eS n.d.Users),.d (Sl Kgj n.d.Owners),I n.d.Life,B n.d.Approve,.map 0,.map 1,.map 2,.map 3],bg al,.box 37 (fS s),.box 77 [S (((mGet n.there s.Node).getD (⟨[],[],[],[],[],0,0,false⟩:Kbe)).Node),S (((mGet n.there s.Node).getD (⟨[],[],[],[],[],0,0,false⟩:Kbe)).User),S (((mGet n.there s.Node).getD (⟨[],[],[],[],[],0,0,false⟩:Kbe)).Name),S (((mGet n.there s.Node).getD (⟨[],[],[],[],[],0,0,false⟩:Kbe)).Public),.d (Sl eS (((mGet n.there s.Node).getD (⟨[],[],[],[],[],0,0,false⟩:Kbe)).Tags)),I (((mGet n.there s.Node).getD (⟨[],[],[],[],[],0,0,false⟩:Kbe)).Joined),I (((mGet n.there s.Node).getD (⟨[],[],[],[],[],0,0,false⟩:Kbe)).Expires),B (((mGet n.there s.Node).getD (⟨[],[],[],[],[],0,0,false⟩:Kbe)).Approved)]] ?_ ?_
      ·refine eo_gsplit rfl rfl (fun hb=>?_) (fun hb=>?_)
       ·have h19:=cT hq17 hb
        obtain ⟨y20,hy20,h21⟩:=bi_ok h19
        refine go_ops hΓ 4 rfl ?_
        refine eo_guard rfl ?_
        refine eo_callF [0,1,2,3,4] (B y20) [mOb kS false eB n.users,mOb kS false (eH (some 0)) n.passes,mOb kS true Kgo n.there,mOb kS false (eT 233 11 Kgp) n.story,.box 206 [.d (Sl eS n.d.Users),.d (Sl Kgj n.d.Owners),I n.d.Life,B n.d.Approve,.map 0,.map 1,.map 2,.map 3],bg al,.box 37 (fS s),.box 77 [S (((mGet n.there s.Node).getD (⟨[],[],[],[],[],0,0,false⟩:Kbe)).Node),S (((mGet n.there s.Node).getD (⟨[],[],[],[],[],0,0,false⟩:Kbe)).User),S (((mGet n.there s.Node).getD (⟨[],[],[],[],[],0,0,false⟩:Kbe)).Name),S (((mGet n.there s.Node).getD (⟨[],[],[],[],[],0,0,false⟩:Kbe)).Public),.d (Sl eS (((mGet n.there s.Node).getD (⟨[],[],[],[],[],0,0,false⟩:Kbe)).Tags)),I (((mGet n.there s.Node).getD (⟨[],[],[],[],[],0,0,false⟩:Kbe)).Joined),I (((mGet n.there s.Node).getD (⟨[],[],[],[],[],0,0,false⟩:Kbe)).Expires),B (((mGet n.there s.Node).getD (⟨[],[],[],[],[],0,0,false⟩:Kbe)).Approved)]] (callable Tryz.func191 rfl rfl) (Kjs hy20) rfl (nBe rfl) rfl rfl rfl rfl rfl rfl rfl rfl rfl rfl ?_
        refine go_ops hΓ 3 rfl ?_
        obtain rfl:=oSi h21
        exact ⟨⟨rfl,rfl,rfl,rfl,trivial⟩,[],rfl,.inl rfl⟩
       ·have h22:=cF hq17 hb
        refine go_ops hΓ 8 rfl ?_
        obtain rfl:=oSi h22
        exact ⟨⟨rfl,rfl,rfl,rfl,trivial⟩,[],rfl,.inl rfl⟩
      ·refine go_ops hΓ 2 rfl ?_
       refine j_cond rfl (fun hb=>?_) (fun hb=>?_)
       ·have h23:=cT h18 hb
        refine go hΓ 7 rfl ?_
        refine cv_here ?_
        obtain rfl:=oSi h23
        exact fin_objs hΓ [_,_] (.inr rfl) rfl rfl rfl rfl (.inr ⟨HB.mk rfl,rfl⟩)
       ·have h24:=cF h18 hb
        obtain ⟨y25,hy25,h26⟩:=bi_ok h24
        refine go hΓ 7 rfl ?_
        refine eo_callF [0,1,2,3,4,5] (I y25.1) [mOb kS false eB y25.2.1.users,mOb kS false (eH (some 0)) y25.2.1.passes,mOb kS true Kgo y25.2.1.there,mOb kS false (eT 233 11 Kgp) y25.2.1.story,.box 206 [.d (Sl eS y25.2.1.d.Users),.d (Sl Kgj y25.2.1.d.Owners),I y25.2.1.d.Life,B y25.2.1.d.Approve,.map 0,.map 1,.map 2,.map 3],bg y25.2.2,.box 37 (fS s),.box 77 [S (((mGet n.there s.Node).getD (⟨[],[],[],[],[],0,0,false⟩:Kbe)).Node),S (((mGet n.there s.Node).getD (⟨[],[],[],[],[],0,0,false⟩:Kbe)).User),S (((mGet n.there s.Node).getD (⟨[],[],[],[],[],0,0,false⟩:Kbe)).Name),S (((mGet n.there s.Node).getD (⟨[],[],[],[],[],0,0,false⟩:Kbe)).Public),.d (Sl eS (((mGet n.there s.Node).getD (⟨[],[],[],[],[],0,0,false⟩:Kbe)).Tags)),I (((mGet n.there s.Node).getD (⟨[],[],[],[],[],0,0,false⟩:Kbe)).Joined),I (((mGet n.there s.Node).getD (⟨[],[],[],[],[],0,0,false⟩:Kbe)).Expires),B (((mGet n.there s.Node).getD (⟨[],[],[],[],[],0,0,false⟩:Kbe)).Approved)]] (callable Tryz.func192 rfl rfl) (Kjt hy25) rfl (nBe rfl) rfl rfl rfl rfl rfl rfl rfl rfl rfl rfl ?_
        refine go_ops hΓ 4 rfl ?_
        refine cv_here ?_
        obtain rfl:=oSi h26
        exact fin_objs hΓ [_,_] (.inr rfl) rfl rfl rfl rfl (.inr ⟨HB.mk rfl,rfl⟩)
theorem Kjv {k:Nat} {d:Kba} {l:List Kbb} {al:BagT} {r:(List Kbh)×Int×BagT} (h:Kem k d l al=some r):EC Tryz.prog 14 [.agg (fD d),.d (Sl Kgl l)] [bg al] fun g hp'=>g=.tup [.d (Sl Kgq r.1),I r.2.1]∧hp'=[bg r.2.2]:=by
 refine ec_enter (Fr.of 0 _) Tryz.func14 rfl (Fr.of_ok _) (nBe rfl) fun _=>?_
 refine go_in ?_
 unfold Kem at h
 refine go hΓ 2 rfl ?_
 refine eo_box rfl rfl rfl rfl (nBe rfl) ?_
 obtain ⟨y1,hy1,h2⟩:=bi_ok h
 refine go_ops hΓ 9 rfl ?_
 refine eo_callP (callable Tryz.func85 rfl rfl) (Kjb hy1) rfl (nBe rfl) rfl rfl rfl rfl rfl ?_
 refine go_ops hΓ 9 rfl ?_
 refine j_cond rfl (fun hb=>?_) (fun hb=>?_)
 ·have h3:=cT h2 hb
  refine go hΓ 9 rfl ?_
  obtain rfl:=oSi h3
  exact fin_objs hΓ [_] (.inr rfl) rfl rfl rfl rfl (.inr ⟨HB.mk rfl,rfl⟩)
 ·have h4:=cF h2 hb
  obtain ⟨y5,hy5,h6⟩:=bi_ok h4
  refine go hΓ 5 rfl ?_
  refine eo_callF [] (.ptr 6 0) [bg al,.box 29 (fD d),mOb kS false eB y5.users,mOb kS false (eH (some 0)) y5.passes,mOb kS true Kgo y5.there,mOb kS false (eT 233 11 Kgp) y5.story,.box 206 [.d (Sl eS y5.d.Users),.d (Sl Kgj y5.d.Owners),I y5.d.Life,B y5.d.Approve,.map 2,.map 3,.map 4,.map 5]] (callable Tryz.func86 rfl rfl) (Kjc hy5) rfl (nBe rfl) rfl rfl rfl rfl rfl rfl rfl rfl rfl rfl ?_
  refine go_ops hΓ 5 rfl ?_
  refine eo_nilOwn (t:=0) 48 2 rfl (nBe rfl) ?_
  refine go_ops hΓ 10 rfl ?_
  obtain ⟨q10,hq10,h11⟩:=bi_ok h6
  refine j_bound 20 rfl fun hb13=>?_
  refine j_cutNZ [(8,.sl 7 q10.2.2.2.2.2.2.2.2.2.length)] [bg q10.1,.box 29 (fD d),mOb kS false eB q10.2.1,mOb kS false (eH (some 0)) q10.2.2.1,mOb kS true Kgo q10.2.2.2.1,mOb kS false (eT 233 11 Kgp) q10.2.2.2.2.1,.box 206 [.d (Sl eS q10.2.2.2.2.2.1),.d (Sl Kgj q10.2.2.2.2.2.2.1),I q10.2.2.2.2.2.2.2.1,B q10.2.2.2.2.2.2.2.2.1,.map 2,.map 3,.map 4,.map 5],rO 48 2 Kgq q10.2.2.2.2.2.2.2.2.2] ?_ ?_
  ·refine go hΓ 1 rfl ?_
   refine j_rangeF l hq10 (fun i7 s8=>[(7,.ptr 6 0),(8,.sl 7 s8.2.2.2.2.2.2.2.2.2.length),(20,.d (Sl Kgl l)),(21,I (l.length:Int)),(22,I (i7:Int))]) (fun s8=>[bg s8.1,.box 29 (fD d),mOb kS false eB s8.2.1,mOb kS false (eH (some 0)) s8.2.2.1,mOb kS true Kgo s8.2.2.2.1,mOb kS false (eT 233 11 Kgp) s8.2.2.2.2.1,.box 206 [.d (Sl eS s8.2.2.2.2.2.1),.d (Sl Kgj s8.2.2.2.2.2.2.1),I s8.2.2.2.2.2.2.2.1,B s8.2.2.2.2.2.2.2.2.1,.map 2,.map 3,.map 4,.map 5],rO 48 2 Kgq s8.2.2.2.2.2.2.2.2.2]) ⟨⟨rfl,rfl,rfl,rfl,rfl,trivial⟩,[],rfl,.inl rfl⟩ (fun i7 x9 s8 y17 hx14 hlt hy15=>?_) (?_)
   ·refine go hΓ 6 rfl ?_
    refine j_condT rfl (decide_eq_true (Int.ofNat_lt.2 hlt)) ?_
    refine go hΓ 7 rfl ?_
    refine eo_o rfl (op_elemZ hΓ (enc:=Kgl) (getZ_nat hx14) rfl rfl rfl rfl rfl (fun _=>rfl)) ?_
    refine go_ops hΓ 1 rfl ?_
    refine eo_alloc hΓ rfl rfl rfl (nBe rfl) ?_
    refine go_ops hΓ 1 rfl ?_
    refine eo_store hΓ rfl rfl rfl rfl rfl rfl rfl rfl (nBe rfl) ?_
    refine eo_hp [bg s8.1,.box 29 (fD d),mOb kS false eB s8.2.1,mOb kS false (eH (some 0)) s8.2.2.1,mOb kS true Kgo s8.2.2.2.1,mOb kS false (eT 233 11 Kgp) s8.2.2.2.2.1,.box 206 [.d (Sl eS s8.2.2.2.2.2.1),.d (Sl Kgj s8.2.2.2.2.2.2.1),I s8.2.2.2.2.2.2.2.1,B s8.2.2.2.2.2.2.2.2.1,.map 2,.map 3,.map 4,.map 5],rO 48 2 Kgq s8.2.2.2.2.2.2.2.2.2,.box 37 (fS x9)] rfl ?_
    obtain ⟨y18,hy18,h19⟩:=bi_ok hy15
    refine go_ops hΓ 6 rfl ?_
    refine eo_callF [2,3,4,5,6,0] (I y18.1) [bg y18.2.2,.box 29 (fD d),mOb kS false eB y18.2.1.users,mOb kS false (eH (some 0)) y18.2.1.passes,mOb kS true Kgo y18.2.1.there,mOb kS false (eT 233 11 Kgp) y18.2.1.story,.box 206 [.d (Sl eS y18.2.1.d.Users),.d (Sl Kgj y18.2.1.d.Owners),I y18.2.1.d.Life,B y18.2.1.d.Approve,.map 2,.map 3,.map 4,.map 5],rO 48 2 Kgq s8.2.2.2.2.2.2.2.2.2,.box 37 (fS x9)] (callable Tryz.func87 rfl rfl) (Kju hy18) rfl (nBe rfl) rfl rfl rfl rfl rfl rfl rfl rfl rfl rfl ?_
    refine go_ops hΓ 9 rfl ?_
    refine j_cond rfl (fun hb=>?_) (fun hb=>?_)
    ·have h20:=cT h19 hb
     refine go hΓ 4 rfl ?_
     refine eo_build hΓ (gs:=[I (i7:Int),I y18.1]) rfl rfl rfl rfl rfl rfl rfl ?_
     refine eo_litT hΓ (enc:=Kgq) [(⟨(i7:Int),y18.1⟩:Kbh)] rfl rfl rfl rfl rfl rfl rfl rfl rfl rfl rfl rfl (nBe rfl) ?_
     obtain ⟨y21,hy21,h22⟩:=bi_ok h20
     refine eo_appendT hΓ (enc:=Kgq) hy21 rfl rfl rfl rfl rfl rfl rfl rfl rfl (fun _=>rfl) rfl rfl rfl rfl ?_
     refine go_ops hΓ 8 rfl ?_
     obtain rfl:=oSi h22
     exact ⟨⟨rfl,rfl,rfl,rfl,get_eq rfl (w64_succ (Nat.lt_of_lt_of_le hlt hb13)),trivial⟩,[_],rfl,.inr ⟨HB.mk rfl,FB.mk rfl,(nBe rfl)⟩⟩
    ·have h23:=cF h19 hb
     refine go hΓ 7 rfl ?_
     obtain rfl:=oSi h23
     exact ⟨⟨rfl,rfl,rfl,rfl,get_eq rfl (w64_succ (Nat.lt_of_lt_of_le hlt hb13)),trivial⟩,[_],rfl,.inr ⟨HB.mk rfl,FB.mk rfl,(nBe rfl)⟩⟩
   ·refine go hΓ 6 rfl ?_
    refine j_condF rfl (decide_eq_false (Int.lt_irrefl _)) ?_
    refine go hΓ 4 rfl ?_
    exact ⟨⟨rfl,trivial⟩,[],rfl,.inl rfl⟩
  ·refine go hΓ 5 rfl ?_
   refine eo_shr 7 [4,8,39] _ [bg q10.1,.box 29 (fD d),mOb kS false eB q10.2.1,mOb kS false (eH (some 0)) q10.2.2.1,mOb kS true Kgo q10.2.2.2.1,mOb kS false (eT 233 11 Kgp) q10.2.2.2.2.1,.box 206 [.d (Sl eS q10.2.2.2.2.2.1),.d (Sl Kgj q10.2.2.2.2.2.2.1),I q10.2.2.2.2.2.2.2.1,B q10.2.2.2.2.2.2.2.2.1,.map 2,.map 3,.map 4,.map 5],.dead] rfl rfl rfl (nBe rfl) ?_
   refine go_ops hΓ 4 rfl ?_
   obtain rfl:=oSi h11
   exact fin_objs hΓ [_,_,_,_,_,_,_] (.inr rfl) rfl rfl rfl rfl (.inr ⟨HB.mk rfl,rfl⟩)
theorem Kjw {o:Kbb} {x:Kbb} {r:Bool} (h:Ken o x=some r):EC Tryz.prog 91 [.agg (fS o),.ptr 0 0] [.box 37 (fS x)] fun g hp'=>g=B r∧hp'=[.box 37 (fS x)]:=by
 refine ec_enter (Fr.of 0 _) Tryz.func91 rfl (Fr.of_ok _) (nBe rfl) fun _=>?_
 refine go_in ?_
 unfold Ken at h
 refine go hΓ 2 rfl ?_
 refine eo_box rfl rfl rfl rfl (nBe rfl) ?_
 refine go_ops hΓ 4 rfl ?_
 refine j_draw hmix (by kernel_rfl) ?_
 obtain ⟨y1,hy1,h2⟩:=bi_ok h
 refine go hΓ 1 rfl ?_
 refine gl_callP (callable Tryz.func92 rfl rfl) (Kiz hy1) rfl rfl rfl rfl rfl rfl ?_
 obtain ⟨y3,hy3,h4⟩:=bi_ok h2
 refine go_draw hΓ 1 rfl ?_
 refine gl_callP (callable Tryz.func92 rfl rfl) (Kiz hy3) rfl rfl rfl rfl rfl rfl ?_
 refine gl_o rfl (op_eqS hΓ [150] (b:=(((y1.server:Str)==y3.server)&&(((y1.no:Int)==y3.no)&&true))) (by kernel_rfl) (by kernel_rfl) rfl rfl rfl) ?_
 refine go_draw hΓ 4 rfl ?_
 obtain rfl:=oSi h4
 exact fin_objs hΓ [_] (.inr rfl) rfl rfl rfl rfl (.inr ⟨HB.mk rfl,rfl⟩)
theorem Kjx {s:List Kbb} {f:Kbb} {r:Int} (h:Keo s f=some r):EC Tryz.prog 114 [.d (Sl Kgl s),.fn (.func 91) [] [.ptr 0 0]] [.box 37 (fS f)] fun g hp'=>g=I r∧hp'=[.box 37 (fS f)]:=by
 refine ec_enter (Fr.of 0 _) Tryz.func114 rfl (Fr.of_ok _) (nBe rfl) fun _=>?_
 refine go_in ?_
 unfold Keo at h
 refine go hΓ 13 rfl ?_
 obtain ⟨q4,hq4,h5⟩:=bi_ok h
 refine j_bound 0 rfl fun hb7=>?_
 refine j_cutEZ (R:=fun a6=>q4=.go a6) (fun a6=>[]) (fun a6=>[.box 37 (fS f)]) ?_ ?_
 ·refine go hΓ 1 rfl ?_
  refine j_range s hq4 (fun i1 s2=>[(0,.d (Sl Kgl s)),(1,.fn (.func 91) [] [.ptr 0 0]),(7,I (s.length:Int)),(8,I (i1:Int))]) (fun s2=>[.box 37 (fS f)]) ⟨⟨rfl,rfl,rfl,rfl,trivial⟩,[],rfl,.inl rfl⟩ (fun i1 x3 s2 y11 hx8 hlt hy9 hout10=>?_) (fun s2 hgo=>?_)
  ·refine go hΓ 6 rfl ?_
   refine j_condT rfl (decide_eq_true (Int.ofNat_lt.2 hlt)) ?_
   refine go hΓ 15 rfl ?_
   refine eo_o rfl (op_elemZ hΓ (enc:=Kgl) (getZ_nat hx8) rfl rfl rfl rfl rfl (fun _=>rfl)) ?_
   obtain ⟨y12,hy12,h13⟩:=bi_ok hy9
   refine go_ops hΓ 1 rfl ?_
   refine eo_callF [0] (B y12) [.box 37 (fS f)] (callable Tryz.func91 rfl rfl) (Kjw hy12) rfl (nBe rfl) rfl rfl rfl rfl rfl rfl rfl rfl rfl rfl ?_
   refine go_ops hΓ 2 rfl ?_
   refine j_cond rfl (fun hb=>?_) (fun hb=>?_)
   ·have h14:=cT h13 hb
    refine go hΓ 9 rfl ?_
    obtain ⟨v15,hv15,h16⟩:=bi_ok h14
    obtain rfl:=oSi h16
    obtain rfl:=hout10 _ rfl
    obtain rfl:=oSi h5
    refine go hΓ 4 rfl ?_
    obtain rfl:=oSi hv15
    exact fin_objs hΓ [] (.inr rfl) rfl rfl rfl rfl (.inl rfl)
   ·have h17:=cF h13 hb
    refine go hΓ 7 rfl ?_
    obtain rfl:=oSi h17
    exact ⟨_,rfl,⟨⟨rfl,rfl,rfl,get_eq rfl (w64_succ (Nat.lt_of_lt_of_le hlt hb7)),trivial⟩,[],rfl,.inl rfl⟩⟩
  ·subst hgo
   refine go hΓ 6 rfl ?_
   refine j_condF rfl (decide_eq_false (Int.lt_irrefl _)) ?_
   refine go hΓ 4 rfl ?_
   exact ⟨_,rfl,⟨trivial,[],rfl,.inl rfl⟩⟩
 ·intro a6 ha
  subst ha
  replace h5:=goI_l h5
  refine go hΓ 7 rfl ?_
  obtain rfl:=oSi h5
  exact fin_objs hΓ [] (.inr rfl) rfl rfl rfl rfl (.inl rfl)
theorem Kjy {s:List Kbb} {f:Kbb} {r:Bool} (h:Kep s f=some r):EC Tryz.prog 90 [.d (Sl Kgl s),.fn (.func 91) [] [.ptr 0 0]] [.box 37 (fS f)] fun g hp'=>g=B r∧hp'=[.box 37 (fS f)]:=by
 refine ec_enter (Fr.of 0 _) Tryz.func90 rfl (Fr.of_ok _) (nBe rfl) fun _=>?_
 refine go_in ?_
 unfold Kep at h
 obtain ⟨y1,hy1,h2⟩:=bi_ok h
 refine go hΓ 9 rfl ?_
 refine eo_callF [0] (I y1) [.box 37 (fS f)] (callable Tryz.func114 rfl rfl) (Kjx hy1) rfl (nBe rfl) rfl rfl rfl rfl rfl rfl rfl rfl rfl rfl ?_
 refine go_ops hΓ 5 rfl ?_
 obtain rfl:=oSi h2
 exact fin_objs hΓ [] (.inr rfl) rfl rfl rfl rfl (.inl rfl)
theorem Kjz {d:Kba} {l:List Kbb} {v_at:Int} {al:BagT} {r:Kbg×BagT} (h:Keq d l v_at al=some r):EC Tryz.prog 139 [.agg (fD d),.d (Sl Kgl l),I v_at] [bg al] fun g hp'=>g=.ptr 5 0∧hp'=[bg r.2,mOb kS false eB r.1.users,mOb kS false (eH (some 0)) r.1.passes,mOb kS true Kgo r.1.there,mOb kS false (eT 233 11 Kgp) r.1.story,.box 206 [.d (Sl eS r.1.d.Users),.d (Sl Kgj r.1.d.Owners),I r.1.d.Life,B r.1.d.Approve,.map 1,.map 2,.map 3,.map 4]]:=by
 refine ec_enterC (Fr.of 0 _) Tryz.func139 rfl (Fr.of_ok _) (nBe rfl) fun _=>?_
 refine go_in ?_
 unfold Keq at h
 refine go hΓ 2 rfl ?_
 refine eo_box rfl rfl rfl rfl (nBe rfl) ?_
 obtain ⟨y1,hy1,h2⟩:=bi_ok h
 refine go_ops hΓ 6 rfl ?_
 refine eo_callF [] (.ptr 6 0) [bg al,.box 29 (fD d),mOb kS false eB y1.users,mOb kS false (eH (some 0)) y1.passes,mOb kS true Kgo y1.there,mOb kS false (eT 233 11 Kgp) y1.story,.box 206 [.d (Sl eS y1.d.Users),.d (Sl Kgj y1.d.Owners),I y1.d.Life,B y1.d.Approve,.map 2,.map 3,.map 4,.map 5]] (callable Tryz.func86 rfl rfl) (Kjc hy1) rfl (nBe rfl) rfl rfl rfl rfl rfl rfl rfl rfl rfl rfl ?_
 refine go_ops hΓ 11 rfl ?_
 obtain ⟨q6,hq6,h7⟩:=bi_ok h2
 refine j_bound 12 rfl fun hb9=>?_
 refine j_cutNZ [(7,.ptr 6 0)] [bg q6.1,.box 29 (fD d),mOb kS false eB q6.2.1,mOb kS false (eH (some 0)) q6.2.2.1,mOb kS true Kgo q6.2.2.2.1,mOb kS false (eT 233 11 Kgp) q6.2.2.2.2.1,.box 206 [.d (Sl eS q6.2.2.2.2.2.1),.d (Sl Kgj q6.2.2.2.2.2.2.1),I q6.2.2.2.2.2.2.2.1,B q6.2.2.2.2.2.2.2.2,.map 2,.map 3,.map 4,.map 5]] ?_ ?_
 ·refine go hΓ 1 rfl ?_
  refine j_rangeF l hq6 (fun i3 s4=>[(2,I v_at),(7,.ptr 6 0),(12,.d (Sl Kgl l)),(13,I (l.length:Int)),(14,I (i3:Int))]) (fun s4=>[bg s4.1,.box 29 (fD d),mOb kS false eB s4.2.1,mOb kS false (eH (some 0)) s4.2.2.1,mOb kS true Kgo s4.2.2.2.1,mOb kS false (eT 233 11 Kgp) s4.2.2.2.2.1,.box 206 [.d (Sl eS s4.2.2.2.2.2.1),.d (Sl Kgj s4.2.2.2.2.2.2.1),I s4.2.2.2.2.2.2.2.1,B s4.2.2.2.2.2.2.2.2,.map 2,.map 3,.map 4,.map 5]]) ⟨⟨rfl,rfl,rfl,rfl,rfl,trivial⟩,[],rfl,.inl rfl⟩ (fun i3 x5 s4 y13 hx10 hlt hy11=>?_) (?_)
  ·refine go hΓ 6 rfl ?_
   refine j_condT rfl (decide_eq_true (Int.ofNat_lt.2 hlt)) ?_
   refine go hΓ 6 rfl ?_
   refine eo_o rfl (op_elemZ hΓ (enc:=Kgl) (getZ_nat hx10) rfl rfl rfl rfl rfl (fun _=>rfl)) ?_
   refine go_ops hΓ 1 rfl ?_
   refine eo_alloc hΓ rfl rfl rfl (nBe rfl) ?_
   refine eo_store hΓ rfl rfl rfl rfl rfl rfl rfl rfl (nBe rfl) ?_
   refine eo_hp [bg s4.1,.box 29 (fD d),mOb kS false eB s4.2.1,mOb kS false (eH (some 0)) s4.2.2.1,mOb kS true Kgo s4.2.2.2.1,mOb kS false (eT 233 11 Kgp) s4.2.2.2.2.1,.box 206 [.d (Sl eS s4.2.2.2.2.2.1),.d (Sl Kgj s4.2.2.2.2.2.2.1),I s4.2.2.2.2.2.2.2.1,B s4.2.2.2.2.2.2.2.2,.map 2,.map 3,.map 4,.map 5],.box 37 (fS x5)] rfl ?_
   refine go_ops hΓ 10 rfl ?_
   refine j_cond rfl (fun hb=>?_) (fun hb=>?_)
   ·have h14:=cT hy11 hb
    obtain ⟨y15,hy15,h16⟩:=bi_ok h14
    refine go hΓ 3 rfl ?_
    refine eo_callF [2,3,4,5,6,0] (I y15.1) [bg y15.2.2,.box 29 (fD d),mOb kS false eB y15.2.1.users,mOb kS false (eH (some 0)) y15.2.1.passes,mOb kS true Kgo y15.2.1.there,mOb kS false (eT 233 11 Kgp) y15.2.1.story,.box 206 [.d (Sl eS y15.2.1.d.Users),.d (Sl Kgj y15.2.1.d.Owners),I y15.2.1.d.Life,B y15.2.1.d.Approve,.map 2,.map 3,.map 4,.map 5],.box 37 (fS x5)] (callable Tryz.func87 rfl rfl) (Kju hy15) rfl (nBe rfl) rfl rfl rfl rfl rfl rfl rfl rfl rfl rfl ?_
    refine go_ops hΓ 7 rfl ?_
    obtain rfl:=oSi h16
    exact ⟨⟨rfl,rfl,rfl,rfl,get_eq rfl (w64_succ (Nat.lt_of_lt_of_le hlt hb9)),trivial⟩,[_],rfl,.inr ⟨HB.mk rfl,FB.mk rfl,(nBe rfl)⟩⟩
   ·have h17:=cF hy11 hb
    refine go hΓ 7 rfl ?_
    obtain rfl:=oSi h17
    exact ⟨⟨rfl,rfl,rfl,rfl,get_eq rfl (w64_succ (Nat.lt_of_lt_of_le hlt hb9)),trivial⟩,[_],rfl,.inr ⟨HB.mk rfl,FB.mk rfl,(nBe rfl)⟩⟩
  ·refine go hΓ 6 rfl ?_
   refine j_condF rfl (decide_eq_false (Int.lt_irrefl _)) ?_
   refine go hΓ 4 rfl ?_
   exact ⟨⟨rfl,trivial⟩,[],rfl,.inl rfl⟩
 ·refine go hΓ 8 rfl ?_
  refine cv_kill 1 [bg q6.1,.dead,mOb kS false eB q6.2.1,mOb kS false (eH (some 0)) q6.2.2.1,mOb kS true Kgo q6.2.2.2.1,mOb kS false (eT 233 11 Kgp) q6.2.2.2.2.1,.box 206 [.d (Sl eS q6.2.2.2.2.2.1),.d (Sl Kgj q6.2.2.2.2.2.2.1),I q6.2.2.2.2.2.2.2.1,B q6.2.2.2.2.2.2.2.2,.map 2,.map 3,.map 4,.map 5]] rfl (nBe rfl) ?_
  refine cv_move 2 1 [bg q6.1,mOb kS false eB q6.2.1,.dead,mOb kS false (eH (some 0)) q6.2.2.1,mOb kS true Kgo q6.2.2.2.1,mOb kS false (eT 233 11 Kgp) q6.2.2.2.2.1,.box 206 [.d (Sl eS q6.2.2.2.2.2.1),.d (Sl Kgj q6.2.2.2.2.2.2.1),I q6.2.2.2.2.2.2.2.1,B q6.2.2.2.2.2.2.2.2,.map 1,.map 3,.map 4,.map 5]] rfl rfl rfl rfl rfl rfl ?_
  refine cv_move 3 2 [bg q6.1,mOb kS false eB q6.2.1,mOb kS false (eH (some 0)) q6.2.2.1,.dead,mOb kS true Kgo q6.2.2.2.1,mOb kS false (eT 233 11 Kgp) q6.2.2.2.2.1,.box 206 [.d (Sl eS q6.2.2.2.2.2.1),.d (Sl Kgj q6.2.2.2.2.2.2.1),I q6.2.2.2.2.2.2.2.1,B q6.2.2.2.2.2.2.2.2,.map 1,.map 2,.map 4,.map 5]] rfl rfl rfl rfl rfl rfl ?_
  refine cv_move 4 3 [bg q6.1,mOb kS false eB q6.2.1,mOb kS false (eH (some 0)) q6.2.2.1,mOb kS true Kgo q6.2.2.2.1,.dead,mOb kS false (eT 233 11 Kgp) q6.2.2.2.2.1,.box 206 [.d (Sl eS q6.2.2.2.2.2.1),.d (Sl Kgj q6.2.2.2.2.2.2.1),I q6.2.2.2.2.2.2.2.1,B q6.2.2.2.2.2.2.2.2,.map 1,.map 2,.map 3,.map 5]] rfl rfl rfl rfl rfl rfl ?_
  refine cv_move 5 4 [bg q6.1,mOb kS false eB q6.2.1,mOb kS false (eH (some 0)) q6.2.2.1,mOb kS true Kgo q6.2.2.2.1,mOb kS false (eT 233 11 Kgp) q6.2.2.2.2.1,.dead,.box 206 [.d (Sl eS q6.2.2.2.2.2.1),.d (Sl Kgj q6.2.2.2.2.2.2.1),I q6.2.2.2.2.2.2.2.1,B q6.2.2.2.2.2.2.2.2,.map 1,.map 2,.map 3,.map 4]] rfl rfl rfl rfl rfl rfl ?_
  refine cv_move 6 5 [bg q6.1,mOb kS false eB q6.2.1,mOb kS false (eH (some 0)) q6.2.2.1,mOb kS true Kgo q6.2.2.2.1,mOb kS false (eT 233 11 Kgp) q6.2.2.2.2.1,.box 206 [.d (Sl eS q6.2.2.2.2.2.1),.d (Sl Kgj q6.2.2.2.2.2.2.1),I q6.2.2.2.2.2.2.2.1,B q6.2.2.2.2.2.2.2.2,.map 1,.map 2,.map 3,.map 4],.dead] rfl rfl rfl rfl rfl rfl ?_
  refine cv_here ?_
  obtain rfl:=oSi h7
  exact fin_objs hΓ [_] (.inr rfl) rfl rfl rfl rfl (.inr ⟨HB.mk rfl,rfl⟩)
theorem Kka {d:Kba} {l:List Kbb} {al:BagT} {r:Kbg×BagT} (h:Ker d l al=some r):EC Tryz.prog 93 [.agg (fD d),.d (Sl Kgl l)] [bg al] fun g hp'=>g=.ptr 5 0∧hp'=[bg r.2,mOb kS false eB r.1.users,mOb kS false (eH (some 0)) r.1.passes,mOb kS true Kgo r.1.there,mOb kS false (eT 233 11 Kgp) r.1.story,.box 206 [.d (Sl eS r.1.d.Users),.d (Sl Kgj r.1.d.Owners),I r.1.d.Life,B r.1.d.Approve,.map 1,.map 2,.map 3,.map 4]]:=by
 refine ec_enterC (Fr.of 0 _) Tryz.func93 rfl (Fr.of_ok _) (nBe rfl) fun _=>?_
 refine go_in ?_
 unfold Ker at h
 refine go hΓ 2 rfl ?_
 refine eo_box rfl rfl rfl rfl (nBe rfl) ?_
 obtain ⟨y1,hy1,h2⟩:=bi_ok h
 refine go_ops hΓ 7 rfl ?_
 refine eo_callF [0] (.ptr 6 0) [bg y1.2,.box 29 (fD d),mOb kS false eB y1.1.users,mOb kS false (eH (some 0)) y1.1.passes,mOb kS true Kgo y1.1.there,mOb kS false (eT 233 11 Kgp) y1.1.story,.box 206 [.d (Sl eS y1.1.d.Users),.d (Sl Kgj y1.1.d.Owners),I y1.1.d.Life,B y1.1.d.Approve,.map 2,.map 3,.map 4,.map 5]] (callable Tryz.func139 rfl rfl) (Kjz hy1) rfl (nBe rfl) rfl rfl rfl rfl rfl rfl rfl rfl rfl rfl ?_
 refine go_ops hΓ 4 rfl ?_
 refine cv_kill 1 [bg y1.2,.dead,mOb kS false eB y1.1.users,mOb kS false (eH (some 0)) y1.1.passes,mOb kS true Kgo y1.1.there,mOb kS false (eT 233 11 Kgp) y1.1.story,.box 206 [.d (Sl eS y1.1.d.Users),.d (Sl Kgj y1.1.d.Owners),I y1.1.d.Life,B y1.1.d.Approve,.map 2,.map 3,.map 4,.map 5]] rfl (nBe rfl) ?_
 refine cv_move 2 1 [bg y1.2,mOb kS false eB y1.1.users,.dead,mOb kS false (eH (some 0)) y1.1.passes,mOb kS true Kgo y1.1.there,mOb kS false (eT 233 11 Kgp) y1.1.story,.box 206 [.d (Sl eS y1.1.d.Users),.d (Sl Kgj y1.1.d.Owners),I y1.1.d.Life,B y1.1.d.Approve,.map 1,.map 3,.map 4,.map 5]] rfl rfl rfl rfl rfl rfl ?_
 refine cv_move 3 2 [bg y1.2,mOb kS false eB y1.1.users,mOb kS false (eH (some 0)) y1.1.passes,.dead,mOb kS true Kgo y1.1.there,mOb kS false (eT 233 11 Kgp) y1.1.story,.box 206 [.d (Sl eS y1.1.d.Users),.d (Sl Kgj y1.1.d.Owners),I y1.1.d.Life,B y1.1.d.Approve,.map 1,.map 2,.map 4,.map 5]] rfl rfl rfl rfl rfl rfl ?_
 refine cv_move 4 3 [bg y1.2,mOb kS false eB y1.1.users,mOb kS false (eH (some 0)) y1.1.passes,mOb kS true Kgo y1.1.there,.dead,mOb kS false (eT 233 11 Kgp) y1.1.story,.box 206 [.d (Sl eS y1.1.d.Users),.d (Sl Kgj y1.1.d.Owners),I y1.1.d.Life,B y1.1.d.Approve,.map 1,.map 2,.map 3,.map 5]] rfl rfl rfl rfl rfl rfl ?_
 refine cv_move 5 4 [bg y1.2,mOb kS false eB y1.1.users,mOb kS false (eH (some 0)) y1.1.passes,mOb kS true Kgo y1.1.there,mOb kS false (eT 233 11 Kgp) y1.1.story,.dead,.box 206 [.d (Sl eS y1.1.d.Users),.d (Sl Kgj y1.1.d.Owners),I y1.1.d.Life,B y1.1.d.Approve,.map 1,.map 2,.map 3,.map 4]] rfl rfl rfl rfl rfl rfl ?_
 refine cv_move 6 5 [bg y1.2,mOb kS false eB y1.1.users,mOb kS false (eH (some 0)) y1.1.passes,mOb kS true Kgo y1.1.there,mOb kS false (eT 233 11 Kgp) y1.1.story,.box 206 [.d (Sl eS y1.1.d.Users),.d (Sl Kgj y1.1.d.Owners),I y1.1.d.Life,B y1.1.d.Approve,.map 1,.map 2,.map 3,.map 4],.dead] rfl rfl rfl rfl rfl rfl ?_
 refine cv_here ?_
 obtain rfl:=oSi h2
 exact fin_objs hΓ [_] (.inr rfl) rfl rfl rfl rfl (.inr ⟨HB.mk rfl,rfl⟩)
set_option maxHeartbeats 8000000 in
theorem Kkb {k:Nat} {d:Kba} {l:List Kbb} {s:Kbb} {al:BagT} {r:Int×Int×BagT} (h:Kes k d l s al=some r):EC Tryz.prog 15 [.agg (fD d),.d (Sl Kgl l),.agg (fS s)] [bg al] fun g hp'=>g=.tup [I r.1,I r.2.1]∧hp'=[bg r.2.2]:=by
 refine ec_enter (Fr.of 0 _) Tryz.func15 rfl (Fr.of_ok _) (nBe rfl) fun _=>?_
 refine go_in ?_
 unfold Kes at h
 refine go hΓ 2 rfl ?_
 refine eo_box rfl rfl rfl rfl (nBe rfl) ?_
 refine eo_box rfl rfl rfl rfl (nBe rfl) ?_
 obtain ⟨y1,hy1,h2⟩:=bi_ok h
 refine go_ops hΓ 9 rfl ?_
 refine eo_callP (callable Tryz.func85 rfl rfl) (Kjb hy1) rfl (nBe rfl) rfl rfl rfl rfl rfl ?_
 refine go_ops hΓ 9 rfl ?_
 refine j_cond rfl (fun hb=>?_) (fun hb=>?_)
 ·have h3:=cT h2 hb
  refine go hΓ 9 rfl ?_
  obtain rfl:=oSi h3
  exact fin_objs hΓ [_,_] (.inr rfl) rfl rfl rfl rfl (.inr ⟨HB.mk rfl,rfl⟩)
 ·have h4:=cF h2 hb
  obtain ⟨y5,hy5,h6⟩:=bi_ok h4
  refine go hΓ 6 rfl ?_
  refine eo_callP (callable Tryz.func88 rfl rfl) (Kix hy5) rfl (nBe rfl) rfl rfl rfl rfl rfl ?_
  refine go_ops hΓ 9 rfl ?_
  refine j_cond rfl (fun hb=>?_) (fun hb=>?_)
  ·have h7:=cT h6 hb
   refine go hΓ 9 rfl ?_
   obtain rfl:=oSi h7
   exact fin_objs hΓ [_,_] (.inr rfl) rfl rfl rfl rfl (.inr ⟨HB.mk rfl,rfl⟩)
  ·have h8:=cF h6 hb
   obtain ⟨q9,hq9,h10⟩:=bi_ok h8
   refine go hΓ 4 rfl ?_
   refine j_cutNZ [(1,.d (Sl Kgl l)),(3,.ptr 1 0),(5,.ptr 2 0),(34,B q9)] [bg al,.box 29 (fD d),.box 37 (fS s)] ?_ ?_
   ·refine j_draw hmix (by kernel_rfl) ?_
    refine go hΓ 4 rfl ?_
    refine gl_gsplit rfl rfl (fun hb=>?_) (fun hb=>?_)
    ·have h11:=cT hq9 hb
     obtain ⟨x12,hx12,h13⟩:=bi_ok h11
     refine go_draw hΓ 4 rfl ?_
     refine gl_og rfl rfl (op_elemZ hΓ (enc:=Kgl) hx12 rfl rfl rfl rfl rfl (fun _=>rfl)) ?_
     obtain ⟨y14,hy14,h15⟩:=bi_ok h13
     refine go_draw hΓ 2 rfl ?_
     refine gl_callPg (callable Tryz.func89 rfl rfl) (Kiy hy14) rfl rfl rfl rfl rfl rfl rfl ?_
     refine go_draw hΓ 3 rfl ?_
     obtain rfl:=oSi h15
     exact ⟨⟨rfl,rfl,rfl,rfl,trivial⟩,[],rfl,.inl rfl⟩
    ·have h16:=cF hq9 hb
     refine go_draw hΓ 11 rfl ?_
     obtain rfl:=oSi h16
     exact ⟨⟨rfl,rfl,rfl,rfl,trivial⟩,[],rfl,.inl rfl⟩
   ·refine go hΓ 1 rfl ?_
    refine j_cond rfl (fun hb=>?_) (fun hb=>?_)
    ·have h17:=cT h10 hb
     refine go hΓ 8 rfl ?_
     obtain rfl:=oSi h17
     exact fin_objs hΓ [_,_] (.inr rfl) rfl rfl rfl rfl (.inr ⟨HB.mk rfl,rfl⟩)
    ·have h18:=cF h10 hb
     obtain ⟨y19,hy19,h20⟩:=bi_ok h18
     refine go hΓ 7 rfl ?_
     refine eo_callF [2] (B y19) [bg al,.box 29 (fD d),.box 37 (fS s)] (callable Tryz.func90 rfl rfl) (Kjy hy19) rfl (nBe rfl) rfl rfl rfl rfl rfl rfl rfl rfl rfl rfl ?_
     refine go_ops hΓ 2 rfl ?_
     refine j_cond rfl (fun hb=>?_) (fun hb=>?_)
     ·have h21:=cT h20 hb
      refine go hΓ 8 rfl ?_
      obtain rfl:=oSi h21
      exact fin_objs hΓ [_,_] (.inr rfl) rfl rfl rfl rfl (.inr ⟨HB.mk rfl,rfl⟩)
     ·have h22:=cF h20 hb
      refine go hΓ 3 rfl ?_
      refine j_drawE [.dead,.box 29 (fD d),.box 37 (fS s)] [0,3] [2,4] [] hmix (by kernel_rfl) (by kernel_rfl) ⟨rfl,rfl,trivial⟩ (nBe rfl) ?_
      obtain ⟨y23,hy23,h24⟩:=bi_ok h22
      refine go_E hΓ 2 rfl ?_
      refine ge_h [bg y23.2,.box 29 (fD d),.box 37 (fS s),mOb kS false eB y23.1.users,mOb kS false (eH (some 0)) y23.1.passes,mOb kS true Kgo y23.1.there,mOb kS false (eT 233 11 Kgp) y23.1.story,.box 206 [.d (Sl eS y23.1.d.Users),.d (Sl Kgj y23.1.d.Owners),I y23.1.d.Life,B y23.1.d.Approve,.map 3,.map 4,.map 5,.map 6]] rfl rfl rfl (st_st ⟨rfl,rfl,trivial⟩) (qte_callF [0] (.ptr 7 0) [bg y23.2,.box 29 (fD d),.box 37 (fS s),mOb kS false eB y23.1.users,mOb kS false (eH (some 0)) y23.1.passes,mOb kS true Kgo y23.1.there,mOb kS false (eT 233 11 Kgp) y23.1.story,.box 206 [.d (Sl eS y23.1.d.Users),.d (Sl Kgj y23.1.d.Owners),I y23.1.d.Life,B y23.1.d.Approve,.map 3,.map 4,.map 5,.map 6]] (callable Tryz.func93 rfl rfl) (Kka hy23) rfl rfl rfl rfl rfl rfl rfl rfl rfl rfl) ?_
      obtain ⟨y25,hy25,h26⟩:=bi_ok h24
      refine go_E hΓ 1 rfl ?_
      refine ge_h [bg y25.2.2,.box 29 (fD d),.box 37 (fS s),mOb kS false eB y25.2.1.users,mOb kS false (eH (some 0)) y25.2.1.passes,mOb kS true Kgo y25.2.1.there,mOb kS false (eT 233 11 Kgp) y25.2.1.story,.box 206 [.d (Sl eS y25.2.1.d.Users),.d (Sl Kgj y25.2.1.d.Owners),I y25.2.1.d.Life,B y25.2.1.d.Approve,.map 3,.map 4,.map 5,.map 6]] rfl rfl rfl (st_st ⟨rfl,rfl,trivial⟩) (qte_callF [3,4,5,6,7,0] (I y25.1) [bg y25.2.2,.box 29 (fD d),.box 37 (fS s),mOb kS false eB y25.2.1.users,mOb kS false (eH (some 0)) y25.2.1.passes,mOb kS true Kgo y25.2.1.there,mOb kS false (eT 233 11 Kgp) y25.2.1.story,.box 206 [.d (Sl eS y25.2.1.d.Users),.d (Sl Kgj y25.2.1.d.Owners),I y25.2.1.d.Life,B y25.2.1.d.Approve,.map 3,.map 4,.map 5,.map 6]] (callable Tryz.func87 rfl rfl) (Kju hy25) rfl rfl rfl rfl rfl rfl rfl rfl rfl rfl) ?_
      refine go_E hΓ 2 rfl ?_
      refine ge_fin ?_
      refine go hΓ 2 rfl ?_
      obtain rfl:=oSi h26
      exact fin_objs hΓ [_,_,_,_,_,_,_] (.inr rfl) rfl rfl rfl rfl (.inr ⟨HB.mk rfl,rfl⟩)
theorem Kkc {k:Nat} {d:Kba} {user:Str} {tag:Str} {r:Bool×Int} (h:Ket k d user tag=some r):Pure Tryz.prog 27 [.agg (fD d),S user,S tag] (.tup [B r.1,I r.2]):=by
 refine Pure.enter (Fr.of 0 _) Tryz.func27 rfl (Fr.of_ok _) rfl rfl ?_
 refine go_in ?_
 unfold Ket at h
 refine go hΓ 2 rfl ?_
 refine eo_box rfl rfl rfl rfl (nBe rfl) ?_
 obtain ⟨y1,hy1,h2⟩:=bi_ok h
 refine go_ops hΓ 8 rfl ?_
 refine eo_callP (callable Tryz.func29 rfl rfl) (Kil hy1) rfl (nBe rfl) rfl rfl rfl rfl rfl ?_
 refine go_ops hΓ 9 rfl ?_
 refine j_cond rfl (fun hb=>?_) (fun hb=>?_)
 ·have h3:=cT h2 hb
  refine go hΓ 9 rfl ?_
  obtain rfl:=oSi h3
  exact fin_pure hΓ (.inr rfl) rfl rfl
 ·have h4:=cF h2 hb
  obtain ⟨y5,hy5,h6⟩:=bi_ok h4
  refine go hΓ 7 rfl ?_
  refine eo_callP (callable Tryz.func102 rfl rfl) (Kjl hy5) rfl (nBe rfl) rfl rfl rfl rfl rfl ?_
  obtain ⟨y7,hy7,h8⟩:=bi_ok h6
  refine go_ops hΓ 13 rfl ?_
  refine eo_callP (callable Tryz.func61 rfl rfl) (Kht hy7) rfl (nBe rfl) rfl rfl rfl rfl rfl ?_
  refine go_ops hΓ 2 rfl ?_
  refine o_cut 3 [(9,B y5.1),(31,B ((!y7)||(!y5.2)))] [.box 29 (fD d)] ?_ ?_
  ·refine eo_gsplit rfl rfl (fun hb=>?_) (fun hb=>?_)
   ·refine go_ops hΓ 4 rfl ?_
    exact ⟨⟨rfl,get_b rfl (or_t hb),trivial⟩,[],rfl,.inl rfl⟩
   ·refine go_ops hΓ 4 rfl ?_
    exact ⟨⟨rfl,get_b rfl (or_f hb),trivial⟩,[],rfl,.inl rfl⟩
  ·refine go_ops hΓ 2 rfl ?_
   refine j_cond rfl (fun hb=>?_) (fun hb=>?_)
   ·have h9:=cT h8 hb
    refine go hΓ 8 rfl ?_
    obtain rfl:=oSi h9
    exact fin_pure hΓ (.inr rfl) rfl rfl
   ·have h10:=cF h8 hb
    refine go hΓ 10 rfl ?_
    obtain rfl:=oSi h10
    exact fin_pure hΓ (.inr rfl) rfl rfl
theorem Kkd {k:Nat} {r:Bool} (h:Keu k=some r):Pure Tryz.prog 16 [] (B r):=by
 refine Pure.enter (Fr.of 0 _) Tryz.func16 rfl (Fr.of_ok _) rfl rfl ?_
 refine go_in ?_
 unfold Keu at h
 refine go hΓ 7 rfl ?_
 refine eo_litT hΓ (enc:=eS) [[97]] rfl rfl rfl rfl rfl rfl rfl rfl rfl rfl rfl rfl (nBe rfl) ?_
 refine eo_litT hΓ (enc:=eS) [[97]] rfl rfl rfl rfl rfl rfl rfl rfl rfl rfl rfl rfl (nBe rfl) ?_
 refine eo_build hΓ (gs:=[S [116],.d (Sl eS [[97]])]) rfl rfl rfl rfl rfl rfl rfl ?_
 refine eo_litT hΓ (enc:=Kgj) [(⟨[116],[[97]]⟩:Kaz)] rfl rfl rfl rfl rfl rfl rfl rfl rfl rfl rfl rfl (nBe rfl) ?_
 refine eo_build hΓ (gs:=[.d (Sl eS [[97]]),.d (Sl Kgj [(⟨[116],[[97]]⟩:Kaz)]),I 1,B false]) rfl rfl rfl rfl rfl rfl rfl ?_
 obtain ⟨y1,hy1,h2⟩:=bi_ok h
 refine eo_callP (callable Tryz.func27 rfl rfl) (Kkc hy1) rfl (nBe rfl) rfl rfl rfl rfl rfl ?_
 refine go_ops hΓ 12 rfl ?_
 refine o_cut 2 [(0,B false),(16,B (((y1.2:Int)==0)&&y1.1))] [] ?_ ?_
 ·refine eo_gsplit rfl rfl (fun hb=>?_) (fun hb=>?_)
  ·refine go_ops hΓ 3 rfl ?_
   exact ⟨⟨rfl,get_b rfl (and_t hb),trivial⟩,[],rfl,.inl rfl⟩
  ·refine go_ops hΓ 3 rfl ?_
   exact ⟨⟨rfl,get_b rfl (and_f hb),trivial⟩,[],rfl,.inl rfl⟩
 ·refine go_ops hΓ 4 rfl ?_
  obtain rfl:=oSi h2
  exact fin_pure hΓ (.inr rfl) rfl rfl
theorem Kke {d:Kba} {r:Kbk} (h:Kev d=some r):EC Tryz.prog 197 [.agg (fD d)] [] fun g hp'=>g=.ptr 4 0∧hp'=[mOb kS false (eH (some 0)) r.keys,mOb kS false (eH (some 0)) r.nodes,mOb kS false eB r.ever,mOb kS false (eV 107 3) r.History,.box 220 [.d (Sl eS r.d.Users),.d (Sl Kgj r.d.Owners),I r.d.Life,B r.d.Approve,.map 0,.map 1,.map 2,.map 3]]:=by
 refine ec_enterC (Fr.of 0 _) Tryz.func197 rfl (Fr.of_ok _) (nBe rfl) fun _=>?_
 refine go_in ?_
 unfold Kev at h
 refine go hΓ 2 rfl ?_
 refine eo_box rfl rfl rfl rfl (nBe rfl) ?_
 refine go_ops hΓ 6 rfl ?_
 refine eo_s (nBe rfl) (nblt.1 rfl) (ops_makeMap false) ?_
 refine eo_hp [.box 29 (fD d),mOb kS false (eH (some 0)) ([]:List (Str×Nat))] rfl ?_
 refine eo_s (nBe rfl) (nblt.1 rfl) (ops_makeMap false) ?_
 refine eo_hp [.box 29 (fD d),mOb kS false (eH (some 0)) ([]:List (Str×Nat)),mOb kS false (eH (some 0)) ([]:List (Str×Nat))] rfl ?_
 refine eo_s (nBe rfl) (nblt.1 rfl) (ops_makeMap false) ?_
 refine eo_hp [.box 29 (fD d),mOb kS false (eH (some 0)) ([]:List (Str×Nat)),mOb kS false (eH (some 0)) ([]:List (Str×Nat)),mOb kS false eB ([]:List (Str×Bool))] rfl ?_
 refine eo_s (nBe rfl) (nblt.1 rfl) (ops_makeMap false) ?_
 refine eo_hp [.box 29 (fD d),mOb kS false (eH (some 0)) ([]:List (Str×Nat)),mOb kS false (eH (some 0)) ([]:List (Str×Nat)),mOb kS false eB ([]:List (Str×Bool)),mOb kS false (eV 107 3) ([]:List (Str×Vl))] rfl ?_
 refine eo_build hΓ (gs:=[.d (Sl eS d.Users),.d (Sl Kgj d.Owners),I d.Life,B d.Approve,.map 1,.map 2,.map 3,.map 4]) rfl rfl rfl rfl rfl rfl rfl ?_
 refine eo_box rfl rfl rfl rfl (nBe rfl) ?_
 refine go_ops hΓ 4 rfl ?_
 refine cv_kill 0 [.dead,mOb kS false (eH (some 0)) ([]:List (Str×Nat)),mOb kS false (eH (some 0)) ([]:List (Str×Nat)),mOb kS false eB ([]:List (Str×Bool)),mOb kS false (eV 107 3) ([]:List (Str×Vl)),.box 220 [.d (Sl eS d.Users),.d (Sl Kgj d.Owners),I d.Life,B d.Approve,.map 1,.map 2,.map 3,.map 4]] rfl (nBe rfl) ?_
 refine cv_move 1 0 [mOb kS false (eH (some 0)) ([]:List (Str×Nat)),.dead,mOb kS false (eH (some 0)) ([]:List (Str×Nat)),mOb kS false eB ([]:List (Str×Bool)),mOb kS false (eV 107 3) ([]:List (Str×Vl)),.box 220 [.d (Sl eS d.Users),.d (Sl Kgj d.Owners),I d.Life,B d.Approve,.map 0,.map 2,.map 3,.map 4]] rfl rfl rfl rfl rfl rfl ?_
 refine cv_move 2 1 [mOb kS false (eH (some 0)) ([]:List (Str×Nat)),mOb kS false (eH (some 0)) ([]:List (Str×Nat)),.dead,mOb kS false eB ([]:List (Str×Bool)),mOb kS false (eV 107 3) ([]:List (Str×Vl)),.box 220 [.d (Sl eS d.Users),.d (Sl Kgj d.Owners),I d.Life,B d.Approve,.map 0,.map 1,.map 3,.map 4]] rfl rfl rfl rfl rfl rfl ?_
 refine cv_move 3 2 [mOb kS false (eH (some 0)) ([]:List (Str×Nat)),mOb kS false (eH (some 0)) ([]:List (Str×Nat)),mOb kS false eB ([]:List (Str×Bool)),.dead,mOb kS false (eV 107 3) ([]:List (Str×Vl)),.box 220 [.d (Sl eS d.Users),.d (Sl Kgj d.Owners),I d.Life,B d.Approve,.map 0,.map 1,.map 2,.map 4]] rfl rfl rfl rfl rfl rfl ?_
 refine cv_move 4 3 [mOb kS false (eH (some 0)) ([]:List (Str×Nat)),mOb kS false (eH (some 0)) ([]:List (Str×Nat)),mOb kS false eB ([]:List (Str×Bool)),mOb kS false (eV 107 3) ([]:List (Str×Vl)),.dead,.box 220 [.d (Sl eS d.Users),.d (Sl Kgj d.Owners),I d.Life,B d.Approve,.map 0,.map 1,.map 2,.map 3]] rfl rfl rfl rfl rfl rfl ?_
 refine cv_move 5 4 [mOb kS false (eH (some 0)) ([]:List (Str×Nat)),mOb kS false (eH (some 0)) ([]:List (Str×Nat)),mOb kS false eB ([]:List (Str×Bool)),mOb kS false (eV 107 3) ([]:List (Str×Vl)),.box 220 [.d (Sl eS d.Users),.d (Sl Kgj d.Owners),I d.Life,B d.Approve,.map 0,.map 1,.map 2,.map 3],.dead] rfl rfl rfl rfl rfl rfl ?_
 refine cv_here ?_
 obtain rfl:=oSi h
 exact fin_objs hΓ [_] (.inr rfl) rfl rfl rfl rfl (.inr ⟨HB.mk rfl,rfl⟩)
theorem Kkf {d:Kba} {tag:Str} {r:(List Str)×Bool} (h:Kew d tag=some r):Pure Tryz.prog 109 [.agg (fD d),S tag] (.tup [.d (Sl eS r.1),B r.2]):=by
 refine Pure.enter (Fr.of 0 _) Tryz.func109 rfl (Fr.of_ok _) rfl rfl ?_
 refine go_in ?_
 unfold Kew at h
 refine go hΓ 2 rfl ?_
 refine eo_box rfl rfl rfl rfl (nBe rfl) ?_
 refine go_ops hΓ 13 rfl ?_
 obtain ⟨q4,hq4,h5⟩:=bi_ok h
 refine j_bound 9 rfl fun hb7=>?_
 refine j_cutEZ (R:=fun a6=>q4=.go a6) (fun a6=>[]) (fun a6=>[.box 29 (fD d)]) ?_ ?_
 ·refine go hΓ 1 rfl ?_
  refine j_range d.Owners hq4 (fun i1 s2=>[(1,S tag),(9,.d (Sl Kgj d.Owners)),(10,I (d.Owners.length:Int)),(11,I (i1:Int))]) (fun s2=>[.box 29 (fD d)]) ⟨⟨rfl,rfl,rfl,rfl,trivial⟩,[],rfl,.inl rfl⟩ (fun i1 x3 s2 y11 hx8 hlt hy9 hout10=>?_) (fun s2 hgo=>?_)
  ·refine go hΓ 6 rfl ?_
   refine j_condT rfl (decide_eq_true (Int.ofNat_lt.2 hlt)) ?_
   refine go hΓ 6 rfl ?_
   refine eo_o rfl (op_elemZ hΓ (enc:=Kgj) (getZ_nat hx8) rfl rfl rfl rfl rfl (fun _=>rfl)) ?_
   refine go_ops hΓ 1 rfl ?_
   refine eo_alloc hΓ rfl rfl rfl (nBe rfl) ?_
   refine eo_store hΓ rfl rfl rfl rfl rfl rfl rfl rfl (nBe rfl) ?_
   refine eo_hp [.box 29 (fD d),.box 155 [S x3.Tag,.d (Sl eS x3.Users)]] rfl ?_
   refine go_ops hΓ 10 rfl ?_
   refine j_cond rfl (fun hb=>?_) (fun hb=>?_)
   ·have h12:=cT hy9 hb
    refine go hΓ 11 rfl ?_
    obtain ⟨v13,hv13,h14⟩:=bi_ok h12
    obtain rfl:=oSi h14
    obtain rfl:=hout10 _ rfl
    obtain rfl:=oSi h5
    refine go hΓ 4 rfl ?_
    obtain rfl:=oSi hv13
    exact fin_pure hΓ (.inr rfl) rfl rfl
   ·have h15:=cF hy9 hb
    refine go hΓ 7 rfl ?_
    obtain rfl:=oSi h15
    exact ⟨_,rfl,⟨⟨rfl,rfl,rfl,get_eq rfl (w64_succ (Nat.lt_of_lt_of_le hlt hb7)),trivial⟩,[_],rfl,.inr ⟨HB.mk rfl,FB.mk rfl,(nBe rfl)⟩⟩⟩
  ·subst hgo
   refine go hΓ 6 rfl ?_
   refine j_condF rfl (decide_eq_false (Int.lt_irrefl _)) ?_
   refine go hΓ 4 rfl ?_
   exact ⟨_,rfl,⟨trivial,[],rfl,.inl rfl⟩⟩
 ·intro a6 ha
  subst ha
  replace h5:=goI_l h5
  refine go hΓ 8 rfl ?_
  obtain rfl:=oSi h5
  exact fin_pure hΓ (.inr rfl) rfl rfl
theorem Kkg {d:Kba} {user:Str} {tags:List Str} {r:Int} (h:Kex d user tags=some r):Pure Tryz.prog 278 [.agg (fD d),S user,.d (Sl eS tags)] (I r):=by
 refine Pure.enter (Fr.of 0 _) Tryz.func278 rfl (Fr.of_ok _) rfl rfl ?_
 refine go_in ?_
 unfold Kex at h
 refine go hΓ 2 rfl ?_
 refine eo_box rfl rfl rfl rfl (nBe rfl) ?_
 refine go_ops hΓ 11 rfl ?_
 obtain ⟨q4,hq4,h5⟩:=bi_ok h
 refine j_bound 11 rfl fun hb7=>?_
 refine j_cutEZ (R:=fun a6=>q4=.go a6) (fun a6=>[]) (fun a6=>[.box 29 (fD d)]) ?_ ?_
 ·refine go hΓ 1 rfl ?_
  refine j_range tags hq4 (fun i1 s2=>[(1,S user),(3,.ptr 0 0),(11,.d (Sl eS tags)),(12,I (tags.length:Int)),(13,I (i1:Int))]) (fun s2=>[.box 29 (fD d)]) ⟨⟨rfl,rfl,rfl,rfl,rfl,trivial⟩,[],rfl,.inl rfl⟩ (fun i1 x3 s2 y11 hx8 hlt hy9 hout10=>?_) (fun s2 hgo=>?_)
  ·refine go hΓ 6 rfl ?_
   refine j_condT rfl (decide_eq_true (Int.ofNat_lt.2 hlt)) ?_
   refine go hΓ 6 rfl ?_
   refine eo_o rfl (op_elemZ hΓ (enc:=eS) (getZ_nat hx8) rfl rfl rfl rfl rfl (fun _=>rfl)) ?_
   obtain ⟨y12,hy12,h13⟩:=bi_ok hy9
   refine go_ops hΓ 8 rfl ?_
   refine eo_callP (callable Tryz.func109 rfl rfl) (Kkf hy12) rfl (nBe rfl) rfl rfl rfl rfl rfl ?_
   refine go_ops hΓ 14 rfl ?_
   refine j_cond rfl (fun hb=>?_) (fun hb=>?_)
   ·have h14:=cT h13 hb
    refine go hΓ 9 rfl ?_
    obtain ⟨v15,hv15,h16⟩:=bi_ok h14
    obtain rfl:=oSi h16
    obtain rfl:=hout10 _ rfl
    obtain rfl:=oSi h5
    refine go hΓ 4 rfl ?_
    obtain rfl:=oSi hv15
    exact fin_pure hΓ (.inr rfl) rfl rfl
   ·have h17:=cF h13 hb
    obtain ⟨y18,hy18,h19⟩:=bi_ok h17
    refine go hΓ 6 rfl ?_
    refine eo_callP (callable Tryz.func61 rfl rfl) (Kht hy18) rfl (nBe rfl) rfl rfl rfl rfl rfl ?_
    refine go_ops hΓ 3 rfl ?_
    refine j_cond rfl (fun hb=>?_) (fun hb=>?_)
    ·have h20:=cT h19 hb
     refine go hΓ 8 rfl ?_
     obtain ⟨v21,hv21,h22⟩:=bi_ok h20
     obtain rfl:=oSi h22
     obtain rfl:=hout10 _ rfl
     obtain rfl:=oSi h5
     refine go hΓ 4 rfl ?_
     obtain rfl:=oSi hv21
     exact fin_pure hΓ (.inr rfl) rfl rfl
    ·have h23:=cF h19 hb
     refine go hΓ 7 rfl ?_
     obtain rfl:=oSi h23
     exact ⟨_,rfl,⟨⟨rfl,rfl,rfl,rfl,get_eq rfl (w64_succ (Nat.lt_of_lt_of_le hlt hb7)),trivial⟩,[],rfl,.inl rfl⟩⟩
  ·subst hgo
   refine go hΓ 6 rfl ?_
   refine j_condF rfl (decide_eq_false (Int.lt_irrefl _)) ?_
   refine go hΓ 4 rfl ?_
   exact ⟨_,rfl,⟨trivial,[],rfl,.inl rfl⟩⟩
 ·intro a6 ha
  subst ha
  replace h5:=goI_l h5
  refine go hΓ 7 rfl ?_
  obtain rfl:=oSi h5
  exact fin_pure hΓ (.inr rfl) rfl rfl
set_option maxHeartbeats 8000000 in
theorem Kkh {v_h:Kbk} {s:Kbb} {al:BagT} {r:Int×Kbk×BagT} (h:Kez v_h s al=some r):EC Tryz.prog 202 [.ptr 4 0,.agg (fS s)] [mOb kS false (eH (some 0)) v_h.keys,mOb kS false (eH (some 0)) v_h.nodes,mOb kS false eB v_h.ever,mOb kS false (eV 107 3) v_h.History,.box 220 [.d (Sl eS v_h.d.Users),.d (Sl Kgj v_h.d.Owners),I v_h.d.Life,B v_h.d.Approve,.map 0,.map 1,.map 2,.map 3],bg al] fun g hp'=>g=I r.1∧hp'=[mOb kS false (eH (some 0)) r.2.1.keys,mOb kS false (eH (some 0)) r.2.1.nodes,mOb kS false eB r.2.1.ever,mOb kS false (eV 107 3) r.2.1.History,.box 220 [.d (Sl eS r.2.1.d.Users),.d (Sl Kgj r.2.1.d.Owners),I r.2.1.d.Life,B r.2.1.d.Approve,.map 0,.map 1,.map 2,.map 3],bg r.2.2]:=by
 refine ec_enterC (Fr.of 0 _) Tryz.func202 rfl (Fr.of_ok _) (nBe rfl) fun _=>?_
 refine go_in ?_
 unfold Kez at h
 refine go hΓ 2 rfl ?_
 refine eo_box rfl rfl rfl rfl (nBe rfl) ?_
 refine go_ops hΓ 4 rfl ?_
 refine j_draw hmix (by kernel_rfl) ?_
 refine go hΓ 6 rfl ?_
 refine gl_o rfl (op_lookupG hΓ (kv:=kS) (agg:=false) (enc:=(eH (some 0))) v_h.keys s.Join (0:Nat) rfl rfl rfl rfl key_str rfl rfl rfl (zdv_hd rfl) rfl) ?_
 refine go_draw hΓ 6 rfl ?_
 refine j_draw hmix (by kernel_rfl) ?_
 obtain ⟨y1,hy1,h2⟩:=bi_ok h
 refine go hΓ 7 rfl ?_
 refine gl_callP (callable Tryz.func61 rfl rfl) (Kht hy1) rfl rfl rfl rfl rfl rfl ?_
 refine go_draw hΓ 4 rfl ?_
 refine j_cond rfl (fun hb=>?_) (fun hb=>?_)
 ·have h3:=cT h2 hb
  refine go hΓ 8 rfl ?_
  refine cv_here ?_
  obtain rfl:=oSi h3
  exact fin_objs hΓ [_] (.inr rfl) rfl rfl rfl rfl (.inr ⟨HB.mk rfl,rfl⟩)
 ·have h4:=cF h2 hb
  refine go hΓ 6 rfl ?_
  refine o_cut 3 [(0,.ptr 4 0),(3,.ptr 6 0),(5,.d (.hd (some 0) ((mGet v_h.keys s.Join).getD 0))),(31,B (((s.Kind:Int)==2)&&(((mGet v_h.keys s.Join).getD 0)==0)))] [mOb kS false (eH (some 0)) v_h.keys,mOb kS false (eH (some 0)) v_h.nodes,mOb kS false eB v_h.ever,mOb kS false (eV 107 3) v_h.History,.box 220 [.d (Sl eS v_h.d.Users),.d (Sl Kgj v_h.d.Owners),I v_h.d.Life,B v_h.d.Approve,.map 0,.map 1,.map 2,.map 3],bg al,.box 37 (fS s)] ?_ ?_
  ·refine eo_gsplit rfl rfl (fun hb=>?_) (fun hb=>?_)
   ·refine go_ops hΓ 1 rfl ?_
    refine eo_guard rfl ?_
    refine eo_o rfl ((op_isNilP hΓ rfl rfl rfl rfl).1) ?_
    refine go_ops hΓ 2 rfl ?_
    exact ⟨⟨rfl,rfl,rfl,get_b rfl (and_t hb),trivial⟩,[],rfl,.inl rfl⟩
   ·refine go_ops hΓ 4 rfl ?_
    exact ⟨⟨rfl,rfl,rfl,get_b rfl (and_f hb),trivial⟩,[],rfl,.inl rfl⟩
  ·refine go_ops hΓ 3 rfl ?_
   refine j_cond rfl (fun hb=>?_) (fun hb=>?_)
   ·have h5:=cT h4 hb
    refine go hΓ 8 rfl ?_
    refine cv_here ?_
    obtain rfl:=oSi h5
    exact fin_objs hΓ [_] (.inr rfl) rfl rfl rfl rfl (.inr ⟨HB.mk rfl,rfl⟩)
   ·have h6:=cF h4 hb
    obtain ⟨q7,hq7,h8⟩:=bi_ok h6
    refine go hΓ 1 rfl ?_
    refine j_cutNZ [(0,.ptr 4 0),(3,.ptr 6 0),(5,.d (.hd (some 0) ((mGet v_h.keys s.Join).getD 0))),(32,B q7)] [mOb kS false (eH (some 0)) v_h.keys,mOb kS false (eH (some 0)) v_h.nodes,mOb kS false eB v_h.ever,mOb kS false (eV 107 3) v_h.History,.box 220 [.d (Sl eS v_h.d.Users),.d (Sl Kgj v_h.d.Owners),I v_h.d.Life,B v_h.d.Approve,.map 0,.map 1,.map 2,.map 3],bg al,.box 37 (fS s)] ?_ ?_
    ·refine j_draw hmix (by kernel_rfl) ?_
     refine go hΓ 4 rfl ?_
     refine gl_gsplit rfl rfl (fun hb=>?_) (fun hb=>?_)
     ·have h9:=cT hq7 hb
      obtain ⟨hg11,h10⟩:=gd_ok h9
      refine go_draw hΓ 1 rfl ?_
      refine gl_og rfl rfl (op_nilCheckH hg11 rfl) ?_
      refine gl_og rfl rfl (op_fieldAddrH hΓ hg11 rfl rfl rfl rfl rfl rfl) ?_
      refine gl_og rfl rfl (op_fieldAddrH hΓ hg11 rfl rfl rfl rfl rfl rfl) ?_
      obtain ⟨m12,hm12,h13⟩:=bi_ok h10
      refine gl_og rfl rfl (op_loadH hΓ (enc:=Kgt) (bg:=5) m12 rfl rfl (ArU.r _ (ArU.r _ (ArU.r _ (ArU.l _ (arU_here (fun _ _=>rfl) hm12 m12))))) rfl (g:=S m12.Join.By) rfl rfl) ?_
      refine go_draw hΓ 6 rfl ?_
      obtain rfl:=oSi h13
      exact ⟨⟨rfl,rfl,rfl,rfl,trivial⟩,[],rfl,.inl rfl⟩
     ·have h14:=cF hq7 hb
      refine go_draw hΓ 11 rfl ?_
      obtain rfl:=oSi h14
      exact ⟨⟨rfl,rfl,rfl,rfl,trivial⟩,[],rfl,.inl rfl⟩
    ·refine go hΓ 1 rfl ?_
     refine j_cond rfl (fun hb=>?_) (fun hb=>?_)
     ·have h15:=cT h8 hb
      refine go hΓ 8 rfl ?_
      refine cv_here ?_
      obtain rfl:=oSi h15
      exact fin_objs hΓ [_] (.inr rfl) rfl rfl rfl rfl (.inr ⟨HB.mk rfl,rfl⟩)
     ·have h16:=cF h8 hb
      refine go hΓ 6 rfl ?_
      obtain ⟨q17,hq17,h18⟩:=bi_ok h16
      refine o_cut 5 [(0,.ptr 4 0),(3,.ptr 6 0),(5,.d (.hd (some 0) ((mGet v_h.keys s.Join).getD 0))),(55,B q17)] [mOb kS false (eH (some 0)) v_h.keys,mOb kS false (eH (some 0)) v_h.nodes,mOb kS false eB v_h.ever,mOb kS false (eV 107 3) v_h.History,.box 220 [.d (Sl eS v_h.d.Users),.d (Sl Kgj v_h.d.Owners),I v_h.d.Life,B v_h.d.Approve,.map 0,.map 1,.map 2,.map 3],bg al,.box 37 (fS s)] ?_ ?_
      ·refine eo_gsplit rfl rfl (fun hb=>?_) (fun hb=>?_)
       ·have h19:=cT hq17 hb
        obtain ⟨hg21,h20⟩:=gd_ok h19
        refine go_ops hΓ 1 rfl ?_
        refine eo_guard rfl ?_
        refine eo_o rfl (op_nilCheckH hg21 rfl) ?_
        refine eo_guard rfl ?_
        refine eo_o rfl (op_fieldAddrH hΓ hg21 rfl rfl rfl rfl rfl rfl) ?_
        obtain ⟨m22,hm22,h23⟩:=bi_ok h20
        refine eo_guard rfl ?_
        refine eo_o rfl (op_loadH hΓ (enc:=Kgt) (bg:=5) m22 rfl rfl (ArU.r _ (ArU.r _ (ArU.r _ (ArU.l _ (arU_here (fun _ _=>rfl) hm22 m22))))) rfl (g:=B m22.revoked) rfl rfl) ?_
        refine go_ops hΓ 2 rfl ?_
        obtain rfl:=oSi h23
        exact ⟨⟨rfl,rfl,rfl,rfl,trivial⟩,[],rfl,.inl rfl⟩
       ·have h24:=cF hq17 hb
        refine go_ops hΓ 6 rfl ?_
        obtain rfl:=oSi h24
        exact ⟨⟨rfl,rfl,rfl,rfl,trivial⟩,[],rfl,.inl rfl⟩
      ·refine go_ops hΓ 3 rfl ?_
       refine j_cond rfl (fun hb=>?_) (fun hb=>?_)
       ·have h25:=cT h18 hb
        refine go hΓ 8 rfl ?_
        refine cv_here ?_
        obtain rfl:=oSi h25
        exact fin_objs hΓ [_] (.inr rfl) rfl rfl rfl rfl (.inr ⟨HB.mk rfl,rfl⟩)
       ·have h26:=cF h18 hb
        refine go hΓ 8 rfl ?_
        refine j_cond rfl (fun hb=>?_) (fun hb=>?_)
        ·have h27:=cT h26 hb
         obtain ⟨hg29,h28⟩:=gd_ok h27
         refine go hΓ 3 rfl ?_
         refine eo_o rfl (op_nilCheckH hg29 rfl) ?_
         refine eo_o rfl (op_fieldAddrH hΓ hg29 rfl rfl rfl rfl rfl rfl) ?_
         obtain ⟨m30,hm30,h31⟩:=bi_ok h28
         refine eo_u (nBe rfl) (opu_storeH hΓ (enc:=Kgt) (bg:=5) m30 (⟨m30.Join,true,m30.used⟩:Kbl) rfl rfl (ArU.r _ (ArU.r _ (ArU.r _ (ArU.l _ (arU_here (fun _ _=>rfl) hm30 (⟨m30.Join,true,m30.used⟩:Kbl)))))) rfl rfl (by intro e; cases e) rfl rfl rfl rfl rfl rfl rfl) ?_
         refine eo_hp [mOb kS false (eH (some 0)) v_h.keys,mOb kS false (eH (some 0)) v_h.nodes,mOb kS false eB v_h.ever,mOb kS false (eV 107 3) v_h.History,.box 220 [.d (Sl eS v_h.d.Users),.d (Sl Kgj v_h.d.Owners),I v_h.d.Life,B v_h.d.Approve,.map 0,.map 1,.map 2,.map 3],.bag al.1 (arX al.2.1 al.2.2.1 al.2.2.2.1 (hSet al.2.2.2.2.1 ((mGet v_h.keys s.Join).getD 0) (⟨m30.Join,true,m30.used⟩:Kbl)) al.2.2.2.2.2) [],.box 37 (fS s)] rfl ?_
         refine go_ops hΓ 10 rfl ?_
         refine cv_here ?_
         obtain rfl:=oSi h31
         exact fin_objs hΓ [_] (.inr rfl) rfl rfl rfl rfl (.inr ⟨HB.mk rfl,rfl⟩)
        ·have h32:=cF h26 hb
         refine go hΓ 3 rfl ?_
         refine eo_o rfl ((op_isNilP hΓ rfl rfl rfl rfl).2) ?_
         refine go_ops hΓ 3 rfl ?_
         refine j_cond rfl (fun hb=>?_) (fun hb=>?_)
         ·have h33:=cT h32 hb
          refine go hΓ 8 rfl ?_
          refine cv_here ?_
          obtain rfl:=oSi h33
          exact fin_objs hΓ [_] (.inr rfl) rfl rfl rfl rfl (.inr ⟨HB.mk rfl,rfl⟩)
         ·have h34:=cF h32 hb
          obtain ⟨y35,hy35,h36⟩:=bi_ok h34
          refine go hΓ 4 rfl ?_
          refine eo_callP (callable Tryz.func105 rfl rfl) (Khu hy35) rfl (nBe rfl) rfl rfl rfl rfl rfl ?_
          refine go_ops hΓ 2 rfl ?_
          refine o_cut 6 [(0,.ptr 4 0),(3,.ptr 6 0),(77,B ((!y35)||(decide ((s.Until:Int)≤s.At))))] [mOb kS false (eH (some 0)) v_h.keys,mOb kS false (eH (some 0)) v_h.nodes,mOb kS false eB v_h.ever,mOb kS false (eV 107 3) v_h.History,.box 220 [.d (Sl eS v_h.d.Users),.d (Sl Kgj v_h.d.Owners),I v_h.d.Life,B v_h.d.Approve,.map 0,.map 1,.map 2,.map 3],bg al,.box 37 (fS s)] ?_ ?_
          ·refine eo_gsplit rfl rfl (fun hb=>?_) (fun hb=>?_)
           ·refine go_ops hΓ 7 rfl ?_
            exact ⟨⟨rfl,rfl,get_b rfl (or_t hb),trivial⟩,[],rfl,.inl rfl⟩
           ·refine go_ops hΓ 7 rfl ?_
            exact ⟨⟨rfl,rfl,get_b rfl (or_f hb),trivial⟩,[],rfl,.inl rfl⟩
          ·refine go_ops hΓ 1 rfl ?_
           refine o_cut 4 [(0,.ptr 4 0),(3,.ptr 6 0),(82,B (((!y35)||(decide ((s.Until:Int)≤s.At)))||(decide ((s.Until:Int)>345686400))))] [mOb kS false (eH (some 0)) v_h.keys,mOb kS false (eH (some 0)) v_h.nodes,mOb kS false eB v_h.ever,mOb kS false (eV 107 3) v_h.History,.box 220 [.d (Sl eS v_h.d.Users),.d (Sl Kgj v_h.d.Owners),I v_h.d.Life,B v_h.d.Approve,.map 0,.map 1,.map 2,.map 3],bg al,.box 37 (fS s)] ?_ ?_
           ·refine eo_gsplit rfl rfl (fun hb=>?_) (fun hb=>?_)
            ·refine go_ops hΓ 5 rfl ?_
             exact ⟨⟨rfl,rfl,get_b rfl (or_t hb),trivial⟩,[],rfl,.inl rfl⟩
            ·refine go_ops hΓ 5 rfl ?_
             exact ⟨⟨rfl,rfl,get_b rfl (or_f hb),trivial⟩,[],rfl,.inl rfl⟩
           ·refine go_ops hΓ 3 rfl ?_
            refine j_cond rfl (fun hb=>?_) (fun hb=>?_)
            ·have h37:=cT h36 hb
             refine go hΓ 8 rfl ?_
             refine cv_here ?_
             obtain rfl:=oSi h37
             exact fin_objs hΓ [_] (.inr rfl) rfl rfl rfl rfl (.inr ⟨HB.mk rfl,rfl⟩)
            ·have h38:=cF h36 hb
             refine go hΓ 5 rfl ?_
             refine j_draw hmix (by kernel_rfl) ?_
             obtain ⟨y39,hy39,h40⟩:=bi_ok h38
             refine go hΓ 8 rfl ?_
             refine gl_callP (callable Tryz.func278 rfl rfl) (Kkg hy39) rfl rfl rfl rfl rfl rfl ?_
             refine go_draw hΓ 9 rfl ?_
             refine j_cond rfl (fun hb=>?_) (fun hb=>?_)
             ·have h41:=cT h40 hb
              refine go hΓ 8 rfl ?_
              refine cv_here ?_
              obtain rfl:=oSi h41
              exact fin_objs hΓ [_] (.inr rfl) rfl rfl rfl rfl (.inr ⟨HB.mk rfl,rfl⟩)
             ·have h42:=cF h40 hb
              refine go hΓ 3 rfl ?_
              refine j_drawE [.dead,.dead,.dead,.dead,.box 220 [.d (Sl eS v_h.d.Users),.d (Sl Kgj v_h.d.Owners),I v_h.d.Life,B v_h.d.Approve,.map 0,.map 1,.map 2,.map 3],.dead,.box 37 (fS s)] [3,5,7,9,11,14,16,18] [21,22] [] hmix (by kernel_rfl) (by kernel_rfl) ⟨rfl,rfl,trivial⟩ (nBe rfl) ?_
              obtain ⟨y43,hy43,h44⟩:=bi_ok h42
              refine go_E hΓ 12 rfl ?_
              refine ge_callP (callable Tryz.func213 rfl rfl) (Pure.rows (Kjf hy43) rfl rfl) rfl rfl rfl rfl rfl rfl ?_
              refine go_E hΓ 6 rfl ?_
              refine ge_q rfl (.inl rfl) (fun _ _=>qte_of_qt (qt_p (op_build hΓ (gs:=[S s.Join,S s.By,.d (Sl eS y43),I s.Until,I s.Uses,B s.Ready]) rfl rfl rfl rfl rfl rfl))) ?_
              refine ge_q rfl (.inl rfl) (fun _ _=>qte_of_qt (qt_p (op_build hΓ (gs:=[S s.Join,S s.By,.d (Sl eS y43),I s.Until,I s.Uses,B s.Ready,B false,I 0]) rfl rfl rfl rfl rfl rfl))) ?_
              refine ge_h [mOb kS false (eH (some 0)) v_h.keys,mOb kS false (eH (some 0)) v_h.nodes,mOb kS false eB v_h.ever,mOb kS false (eV 107 3) v_h.History,.box 220 [.d (Sl eS v_h.d.Users),.d (Sl Kgj v_h.d.Owners),I v_h.d.Life,B v_h.d.Approve,.map 0,.map 1,.map 2,.map 3],bg al,.box 37 (fS s),.box 227 [S s.Join,S s.By,.d (Sl eS y43),I s.Until,I s.Uses,B s.Ready,B false,I 0]] rfl rfl rfl (st_st ⟨rfl,rfl,trivial⟩) (qte_s (ops_box rfl rfl rfl)) ?_
              refine ge_h0 [mOb kS false (eH (some 0)) (mSet v_h.keys s.Join (al.1.length+1)),mOb kS false (eH (some 0)) v_h.nodes,mOb kS false eB v_h.ever,mOb kS false (eV 107 3) v_h.History,.box 220 [.d (Sl eS v_h.d.Users),.d (Sl Kgj v_h.d.Owners),I v_h.d.Life,B v_h.d.Approve,.map 0,.map 1,.map 2,.map 3],.bag (al.1++[false]) (arX al.2.1 al.2.2.1 al.2.2.2.1 ((al.1.length,(⟨(⟨s.Join,s.By,y43,s.Until,s.Uses,s.Ready⟩:Kbi),false,0⟩:Kbl)) :: al.2.2.2.2.1) al.2.2.2.2.2) [],.box 37 (fS s),.dead] rfl rfl (st_st ⟨rfl,rfl,trivial⟩) (qte_u (opu_pre (gh_putP (hp2:=[mOb kS false (eH (some 0)) v_h.keys,mOb kS false (eH (some 0)) v_h.nodes,mOb kS false eB v_h.ever,mOb kS false (eV 107 3) v_h.History,.box 220 [.d (Sl eS v_h.d.Users),.d (Sl Kgj v_h.d.Owners),I v_h.d.Life,B v_h.d.Approve,.map 0,.map 1,.map 2,.map 3],.bag (al.1++[false]) (arX al.2.1 al.2.2.1 al.2.2.2.1 ((al.1.length,(⟨(⟨s.Join,s.By,y43,s.Until,s.Uses,s.Ready⟩:Kbi),false,0⟩:Kbl)) :: al.2.2.2.2.1) al.2.2.2.2.2) [],.box 37 (fS s),.dead]) (bg:=5) (id:=7) (a:=(fB 227 Kgt) al.1.length (⟨(⟨s.Join,s.By,y43,s.Until,s.Uses,s.Ready⟩:Kbi),false,0⟩:Kbl)) [(116,some 0)] ⟨rfl,trivial⟩ rfl rfl ⟨rfl,rfl⟩ rfl rfl (arN_r _ (arN_r _ (arN_r _ (arN_l _ arN_here)))) rfl rfl) (opu_mapUpdate hΓ (kv:=kS) (agg:=false) (enc:=(eH (some 0))) (id:=0) v_h.keys s.Join (al.1.length+1) rfl rfl rfl key_str rfl rfl rfl rfl rfl) (nBe rfl))) ?_
              refine ge_fin ?_
              refine go hΓ 7 rfl ?_
              refine cv_here ?_
              obtain rfl:=oSi h44
              exact fin_objs hΓ [_,_] (.inr rfl) rfl rfl rfl rfl (.inr ⟨HB.mk rfl,rfl⟩)
theorem Kki {v_h:Kbk} {v_public:Str} {al:BagT} {r:Bool} (h:Kfa v_h v_public al=some r):EC Tryz.prog 279 [.ptr 4 0,S v_public] [mOb kS false (eH (some 0)) v_h.keys,mOb kS false (eH (some 0)) v_h.nodes,mOb kS false eB v_h.ever,mOb kS false (eV 107 3) v_h.History,.box 220 [.d (Sl eS v_h.d.Users),.d (Sl Kgj v_h.d.Owners),I v_h.d.Life,B v_h.d.Approve,.map 0,.map 1,.map 2,.map 3],bg al] fun g hp'=>g=B r∧hp'=[mOb kS false (eH (some 0)) v_h.keys,mOb kS false (eH (some 0)) v_h.nodes,mOb kS false eB v_h.ever,mOb kS false (eV 107 3) v_h.History,.box 220 [.d (Sl eS v_h.d.Users),.d (Sl Kgj v_h.d.Owners),I v_h.d.Life,B v_h.d.Approve,.map 0,.map 1,.map 2,.map 3],bg al]:=by
 refine ec_enter (Fr.of 0 _) Tryz.func279 rfl (Fr.of_ok _) (nBe rfl) fun _=>?_
 refine go_in ?_
 unfold Kfa at h
 refine go hΓ 12 rfl ?_
 refine eo_range hΓ (kv:=kS) (agg:=false) (enc:=(eH (some 0))) v_h.nodes rfl rfl rfl rfl rfl (nBe rfl) (fun mr1 bs2 cl3 hpm4 hbl5 hbn6=>?_)
 refine eo_hp [mOb kS false (eH (some 0)) v_h.keys,mObS kS false (eH (some 0)) v_h.nodes (rawM kS (eH (some 0)) mr1 bs2 cl3),mOb kS false eB v_h.ever,mOb kS false (eV 107 3) v_h.History,.box 220 [.d (Sl eS v_h.d.Users),.d (Sl Kgj v_h.d.Owners),I v_h.d.Life,B v_h.d.Approve,.map 0,.map 1,.map 2,.map 3],bg al,.iter 1 cl3 []] rfl ?_
 refine go_ops hΓ 2 rfl ?_
 obtain ⟨q12,hq12,h13⟩:=bi_ok h
 refine go hΓ 1 rfl ?_
 refine j_rangePM hq12 hpm4 hbl5 hbn6 (fun s7=>[(1,S v_public),(11,.ptr 6 0)]) (fun sn9 s7=>[mOb kS false (eH (some 0)) v_h.keys,mObS kS false (eH (some 0)) v_h.nodes (rawM kS (eH (some 0)) mr1 bs2 cl3),mOb kS false eB v_h.ever,mOb kS false (eV 107 3) v_h.History,.box 220 [.d (Sl eS v_h.d.Users),.d (Sl Kgj v_h.d.Owners),I v_h.d.Life,B v_h.d.Approve,.map 0,.map 1,.map 2,.map 3],bg al,.iter 1 cl3 sn9]) ⟨⟨rfl,rfl,trivial⟩,[],rfl,.inl rfl⟩ (fun sn9 s7 hdone14 hstep15=>?_)
 refine go hΓ 2 rfl ?_
 refine eo_next (kv:=kS) (agg:=false) (enc:=(eH (some 0))) v_h.nodes mr1 bs2 cl3 sn9 [mOb kS false (eH (some 0)) v_h.keys,mOb kS false (eH (some 0)) v_h.nodes,mOb kS false eB v_h.ever,mOb kS false (eV 107 3) v_h.History,.box 220 [.d (Sl eS v_h.d.Users),.d (Sl Kgj v_h.d.Owners),I v_h.d.Life,B v_h.d.Approve,.map 0,.map 1,.map 2,.map 3],bg al,.dead] rfl rfl rfl rfl rfl (nBe rfl) (fun hdsn9=>?_) (fun j10 x8 b11 hjsn9 hbsn9 hnsn9=>?_)
 ·have hqsn9:=hdone14 hdsn9
  subst hqsn9
  replace h13:=goI_l h13
  refine go_ops hΓ 16 rfl ?_
  obtain rfl:=oSi h13
  exact fin_objs hΓ [_] (.inr rfl) rfl rfl rfl rfl (.inr ⟨HB.mk rfl,rfl⟩)
 ·obtain ⟨s16,h17,houtsn9⟩:=hstep15 j10 x8 b11 hjsn9 hbsn9 hnsn9
  have hssn9:=h17
  refine go_ops hΓ 10 rfl ?_
  refine eo_o rfl (op_entry (kv:=kS) (agg:=false) (enc:=(eH (some 0))) v_h.nodes mr1 bs2 cl3 sn9 hjsn9 hbsn9 rfl rfl rfl rfl (fun _=>rfl)) ?_
  obtain ⟨hg19,h18⟩:=gd_ok h17
  refine go_ops hΓ 7 rfl ?_
  refine eo_o rfl (op_nilCheckH hg19 rfl) ?_
  refine eo_o rfl (op_fieldAddrH hΓ hg19 rfl rfl rfl rfl rfl rfl) ?_
  obtain ⟨m20,hm20,h21⟩:=bi_ok h18
  refine eo_o rfl (op_loadH hΓ (enc:=Kgo) (bg:=5) m20 rfl rfl (ArU.r _ (ArU.r _ (ArU.l _ (arU_here (fun _ _=>rfl) hm20 m20)))) rfl (g:=S m20.Public) rfl rfl) ?_
  refine go_ops hΓ 4 rfl ?_
  refine j_cond rfl (fun hb=>?_) (fun hb=>?_)
  ·have h22:=cT h21 hb
   refine go hΓ 5 rfl ?_
   refine j_unraw (kv:=kS) (agg:=false) (enc:=(eH (some 0))) (id:=1) v_h.nodes [mOb kS false (eH (some 0)) v_h.keys,mOb kS false (eH (some 0)) v_h.nodes,mOb kS false eB v_h.ever,mOb kS false (eV 107 3) v_h.History,.box 220 [.d (Sl eS v_h.d.Users),.d (Sl Kgj v_h.d.Owners),I v_h.d.Life,B v_h.d.Approve,.map 0,.map 1,.map 2,.map 3],bg al,.iter 1 cl3 (sn9++[b11])] rfl rfl (nBe rfl) ?_
   refine go hΓ 2 rfl ?_
   obtain ⟨v23,hv23,h24⟩:=bi_ok h22
   obtain rfl:=oSi h24
   obtain rfl:=houtsn9 _ rfl
   obtain rfl:=oSi h13
   refine go hΓ 3 rfl ?_
   obtain rfl:=oSi hv23
   exact fin_objs hΓ [_] (.inr rfl) rfl rfl rfl rfl (.inr ⟨HB.mk rfl,rfl⟩)
  ·have h25:=cF h21 hb
   refine go hΓ 2 rfl ?_
   obtain rfl:=oSi h25
   exact ⟨j10,x8,b11,_,hjsn9,hbsn9,hnsn9,hssn9,⟨⟨rfl,rfl,trivial⟩,[],rfl,.inl rfl⟩⟩
end Go.Proofs.YtjmlnnanfkiakaaGreatDoor
