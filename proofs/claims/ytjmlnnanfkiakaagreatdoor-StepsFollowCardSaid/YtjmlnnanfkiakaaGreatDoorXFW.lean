import Derived.Test.YtjmlnnanfkiakaaGreatDoorXFM
import Derived.Test.YtjmlnnanfkiakaaGreatDoorGt
import Derived.Test.YtjmlnnanfkiakaaGreatDoorStrS
import Derived.Test.YtjmlnnanfkiakaaGreatDoorXFW2
set_option linter.unusedVariables false
set_option linter.unusedSimpArgs false
set_option maxRecDepth 100000
namespace Go.Proofs.YtjmlnnanfkiakaaGreatDoor
open Go.Gk
set_option maxHeartbeats 8000000 in
theorem Kfs {v_h:Kbk} {s:Kbb} {al:BagT} {r:Int×Kbk×BagT} (h:Kfb v_h s al=some r):EC Tryz.prog 203 [.ptr 4 0,.agg (fS s)] [mOb kS false (eH (some 0)) v_h.keys,mOb kS false (eH (some 0)) v_h.nodes,mOb kS false eB v_h.ever,mOb kS false (eV 107 3) v_h.History,.box 220 [.d (Sl eS v_h.d.Users),.d (Sl Kgj v_h.d.Owners),I v_h.d.Life,B v_h.d.Approve,.map 0,.map 1,.map 2,.map 3],bg al] fun g hp'=>g=I r.1∧hp'=[mOb kS false (eH (some 0)) r.2.1.keys,mOb kS false (eH (some 0)) r.2.1.nodes,mOb kS false eB r.2.1.ever,mOb kS false (eV 107 3) r.2.1.History,.box 220 [.d (Sl eS r.2.1.d.Users),.d (Sl Kgj r.2.1.d.Owners),I r.2.1.d.Life,B r.2.1.d.Approve,.map 0,.map 1,.map 2,.map 3],bg r.2.2]:=by
 refine ec_enterC (Fr.of 0 _) Tryz.func203 rfl (Fr.of_ok _) (nBe rfl) fun _=>?_
 refine go_in ?_
 unfold Kfb at h
 refine go hΓ 2 rfl ?_
 refine eo_box rfl rfl rfl rfl (nBe rfl) ?_
 refine go_ops hΓ 4 rfl ?_
 refine j_draw hmix (by kernel_rfl) ?_
 refine go hΓ 6 rfl ?_
 refine gl_o rfl (op_lookupG hΓ (kv:=kS) (agg:=false) (enc:=(eH (some 0))) v_h.keys s.Join (0:Nat) rfl rfl rfl rfl key_str rfl rfl rfl (zdv_hd rfl) rfl) ?_
 refine go_draw hΓ 17 rfl ?_
 refine j_cond rfl (fun hb=>?_) (fun hb=>?_)
 ·have h1:=cT h hb
  refine go hΓ 8 rfl ?_
  refine cv_here ?_
  obtain rfl:=oSi h1
  exact fin_objs hΓ [_] (.inr rfl) rfl rfl rfl rfl (.inr ⟨HB.mk rfl,rfl⟩)
 ·have h2:=cF h hb
  obtain ⟨q3,hq3,h4⟩:=bi_ok h2
  refine go hΓ 1 rfl ?_
  refine j_cutNZ [(0,.ptr 4 0),(3,.ptr 6 0),(5,.d (.hd (some 0) ((mGet v_h.keys s.Join).getD 0))),(22,B q3)] [mOb kS false (eH (some 0)) v_h.keys,mOb kS false (eH (some 0)) v_h.nodes,mOb kS false eB v_h.ever,mOb kS false (eV 107 3) v_h.History,.box 220 [.d (Sl eS v_h.d.Users),.d (Sl Kgj v_h.d.Owners),I v_h.d.Life,B v_h.d.Approve,.map 0,.map 1,.map 2,.map 3],bg al,.box 37 (fS s)] ?_ ?_
  ·refine j_draw hmix (by kernel_rfl) ?_
   refine go hΓ 4 rfl ?_
   refine gl_gsplit rfl rfl (fun hb=>?_) (fun hb=>?_)
   ·have h5:=cT hq3 hb
    obtain ⟨y6,hy6,h7⟩:=bi_ok h5
    refine go_draw hΓ 7 rfl ?_
    refine gl_callPg (callable Tryz.func61 rfl rfl) (Kht hy6) rfl rfl rfl rfl rfl rfl rfl ?_
    refine go_draw hΓ 3 rfl ?_
    refine gl_gsplit rfl rfl (fun hb=>?_) (fun hb=>?_)
    ·have h8:=cT h7 hb
     refine go_draw hΓ 10 rfl ?_
     obtain rfl:=oSi h8
     exact ⟨⟨rfl,rfl,rfl,rfl,trivial⟩,[],rfl,.inl rfl⟩
    ·have h9:=cF h7 hb
     refine go_draw hΓ 4 rfl ?_
     refine gl_gsplit rfl rfl (fun hb=>?_) (fun hb=>?_)
     ·have h10:=cT h9 hb
      refine go_draw hΓ 1 rfl ?_
      refine gl_og rfl rfl ((op_isNilP hΓ rfl rfl rfl rfl).1) ?_
      refine go_draw hΓ 4 rfl ?_
      obtain rfl:=oSi h10
      exact ⟨⟨rfl,rfl,rfl,rfl,trivial⟩,[],rfl,.inl rfl⟩
     ·have h11:=cF h9 hb
      refine go_draw hΓ 6 rfl ?_
      obtain rfl:=oSi h11
      exact ⟨⟨rfl,rfl,rfl,rfl,trivial⟩,[],rfl,.inl rfl⟩
   ·have h12:=cF hq3 hb
    refine go_draw hΓ 15 rfl ?_
    refine gl_gsplit rfl rfl (fun hb=>?_) (fun hb=>?_)
    ·have h13:=cT h12 hb
     refine go_draw hΓ 1 rfl ?_
     refine gl_og rfl rfl ((op_isNilP hΓ rfl rfl rfl rfl).1) ?_
     refine go_draw hΓ 4 rfl ?_
     obtain rfl:=oSi h13
     exact ⟨⟨rfl,rfl,rfl,rfl,trivial⟩,[],rfl,.inl rfl⟩
    ·have h14:=cF h12 hb
     refine go_draw hΓ 6 rfl ?_
     obtain rfl:=oSi h14
     exact ⟨⟨rfl,rfl,rfl,rfl,trivial⟩,[],rfl,.inl rfl⟩
  ·refine go hΓ 1 rfl ?_
   refine j_cond rfl (fun hb=>?_) (fun hb=>?_)
   ·have h15:=cT h4 hb
    refine go hΓ 8 rfl ?_
    refine cv_here ?_
    obtain rfl:=oSi h15
    exact fin_objs hΓ [_] (.inr rfl) rfl rfl rfl rfl (.inr ⟨HB.mk rfl,rfl⟩)
   ·have h16:=cF h4 hb
    obtain ⟨q17,hq17,h18⟩:=bi_ok h16
    refine go hΓ 1 rfl ?_
    refine j_cutNZ [(0,.ptr 4 0),(3,.ptr 6 0),(5,.d (.hd (some 0) ((mGet v_h.keys s.Join).getD 0))),(46,B q17)] [mOb kS false (eH (some 0)) v_h.keys,mOb kS false (eH (some 0)) v_h.nodes,mOb kS false eB v_h.ever,mOb kS false (eV 107 3) v_h.History,.box 220 [.d (Sl eS v_h.d.Users),.d (Sl Kgj v_h.d.Owners),I v_h.d.Life,B v_h.d.Approve,.map 0,.map 1,.map 2,.map 3],bg al,.box 37 (fS s)] ?_ ?_
    ·refine j_draw hmix (by kernel_rfl) ?_
     refine go hΓ 1 rfl ?_
     refine gl_o rfl ((op_isNilP hΓ rfl rfl rfl rfl).2) ?_
     refine go_draw hΓ 1 rfl ?_
     refine gl_gsplit rfl rfl (fun hb=>?_) (fun hb=>?_)
     ·have h19:=cT hq17 hb
      obtain ⟨hg21,h20⟩:=gd_ok h19
      refine go_draw hΓ 1 rfl ?_
      refine gl_og rfl rfl (op_nilCheckH hg21 rfl) ?_
      refine gl_og rfl rfl (op_fieldAddrH hΓ hg21 rfl rfl rfl rfl rfl rfl) ?_
      obtain ⟨m22,hm22,h23⟩:=bi_ok h20
      refine gl_og rfl rfl (op_loadH hΓ (enc:=Kgt) (bg:=5) m22 rfl rfl (ArU.r _ (ArU.r _ (ArU.r _ (ArU.l _ (arU_here (fun _ _=>rfl) hm22 m22))))) rfl (g:=B m22.revoked) rfl rfl) ?_
      refine go_draw hΓ 1 rfl ?_
      refine gl_gsplit rfl rfl (fun hb=>?_) (fun hb=>?_)
      ·have h24:=cT h23 hb
       refine go_draw hΓ 12 rfl ?_
       obtain rfl:=oSi h24
       exact ⟨⟨rfl,rfl,rfl,rfl,trivial⟩,[],rfl,.inl rfl⟩
      ·have h25:=cF h23 hb
       obtain ⟨hg27,h26⟩:=gd_ok h25
       refine go_draw hΓ 3 rfl ?_
       refine gl_og rfl rfl (op_nilCheckH hg27 rfl) ?_
       refine gl_og rfl rfl (op_fieldAddrH hΓ hg27 rfl rfl rfl rfl rfl rfl) ?_
       refine gl_og rfl rfl (op_fieldAddrH hΓ hg27 rfl rfl rfl rfl rfl rfl) ?_
       obtain ⟨m28,hm28,h29⟩:=bi_ok h26
       refine gl_og rfl rfl (op_loadH hΓ (enc:=Kgt) (bg:=5) m28 rfl rfl (ArU.r _ (ArU.r _ (ArU.r _ (ArU.l _ (arU_here (fun _ _=>rfl) hm28 m28))))) rfl (g:=I m28.Join.Until) rfl rfl) ?_
       refine go_draw hΓ 5 rfl ?_
       obtain rfl:=oSi h29
       exact ⟨⟨rfl,rfl,rfl,rfl,trivial⟩,[],rfl,.inl rfl⟩
     ·have h30:=cF hq17 hb
      refine go_draw hΓ 17 rfl ?_
      obtain rfl:=oSi h30
      exact ⟨⟨rfl,rfl,rfl,rfl,trivial⟩,[],rfl,.inl rfl⟩
    ·refine go hΓ 1 rfl ?_
     refine j_cond rfl (fun hb=>?_) (fun hb=>?_)
     ·have h31:=cT h18 hb
      refine go hΓ 8 rfl ?_
      refine cv_here ?_
      obtain rfl:=oSi h31
      exact fin_objs hΓ [_] (.inr rfl) rfl rfl rfl rfl (.inr ⟨HB.mk rfl,rfl⟩)
     ·have h32:=cF h18 hb
      obtain ⟨q33,hq33,h34⟩:=bi_ok h32
      refine go hΓ 1 rfl ?_
      refine j_cutNZ [(0,.ptr 4 0),(3,.ptr 6 0),(5,.d (.hd (some 0) ((mGet v_h.keys s.Join).getD 0))),(65,B q33)] [mOb kS false (eH (some 0)) v_h.keys,mOb kS false (eH (some 0)) v_h.nodes,mOb kS false eB v_h.ever,mOb kS false (eV 107 3) v_h.History,.box 220 [.d (Sl eS v_h.d.Users),.d (Sl Kgj v_h.d.Owners),I v_h.d.Life,B v_h.d.Approve,.map 0,.map 1,.map 2,.map 3],bg al,.box 37 (fS s)] ?_ ?_
      ·refine j_draw hmix (by kernel_rfl) ?_
       refine go hΓ 1 rfl ?_
       refine gl_o rfl ((op_isNilP hΓ rfl rfl rfl rfl).2) ?_
       refine go_draw hΓ 1 rfl ?_
       refine gl_gsplit rfl rfl (fun hb=>?_) (fun hb=>?_)
       ·have h35:=cT hq33 hb
        obtain ⟨hg37,h36⟩:=gd_ok h35
        refine go_draw hΓ 1 rfl ?_
        refine gl_og rfl rfl (op_nilCheckH hg37 rfl) ?_
        refine gl_og rfl rfl (op_fieldAddrH hΓ hg37 rfl rfl rfl rfl rfl rfl) ?_
        obtain ⟨m38,hm38,h39⟩:=bi_ok h36
        refine gl_og rfl rfl (op_loadH hΓ (enc:=Kgt) (bg:=5) m38 rfl rfl (ArU.r _ (ArU.r _ (ArU.r _ (ArU.l _ (arU_here (fun _ _=>rfl) hm38 m38))))) rfl (g:=I m38.used) rfl rfl) ?_
        obtain ⟨hg41,h40⟩:=gd_ok h39
        refine go_draw hΓ 1 rfl ?_
        refine gl_og rfl rfl (op_nilCheckH hg41 rfl) ?_
        refine gl_og rfl rfl (op_fieldAddrH hΓ hg41 rfl rfl rfl rfl rfl rfl) ?_
        refine gl_og rfl rfl (op_fieldAddrH hΓ hg41 rfl rfl rfl rfl rfl rfl) ?_
        obtain ⟨m42,hm42,h43⟩:=bi_ok h40
        refine gl_og rfl rfl (op_loadH hΓ (enc:=Kgt) (bg:=5) m42 rfl rfl (ArU.r _ (ArU.r _ (ArU.r _ (ArU.l _ (arU_here (fun _ _=>rfl) hm42 m42))))) rfl (g:=I m42.Join.Left) rfl rfl) ?_
        refine go_draw hΓ 4 rfl ?_
        obtain rfl:=oSi h43
        exact ⟨⟨rfl,rfl,rfl,rfl,trivial⟩,[],rfl,.inl rfl⟩
       ·have h44:=cF hq33 hb
        refine go_draw hΓ 13 rfl ?_
        obtain rfl:=oSi h44
        exact ⟨⟨rfl,rfl,rfl,rfl,trivial⟩,[],rfl,.inl rfl⟩
      ·refine go hΓ 1 rfl ?_
       refine j_cond rfl (fun hb=>?_) (fun hb=>?_)
       ·have h45:=cT h34 hb
        refine go hΓ 8 rfl ?_
        refine cv_here ?_
        obtain rfl:=oSi h45
        exact fin_objs hΓ [_] (.inr rfl) rfl rfl rfl rfl (.inr ⟨HB.mk rfl,rfl⟩)
       ·have h46:=cF h34 hb
        refine go hΓ 1 rfl ?_
        refine j_draw hmix (by kernel_rfl) ?_
        refine go hΓ 6 rfl ?_
        refine gl_o rfl (op_lookup hΓ (kv:=kS) (agg:=false) (enc:=eB) v_h.ever s.Node (false:Bool) rfl rfl rfl rfl key_str rfl rfl rfl rfl rfl rfl rfl) ?_
        refine go_draw hΓ 3 rfl ?_
        refine j_cond rfl (fun hb=>?_) (fun hb=>?_)
        ·have h47:=cT h46 hb
         refine go hΓ 8 rfl ?_
         refine cv_here ?_
         obtain rfl:=oSi h47
         exact fin_objs hΓ [_] (.inr rfl) rfl rfl rfl rfl (.inr ⟨HB.mk rfl,rfl⟩)
        ·have h48:=cF h46 hb
         obtain ⟨y49,hy49,h50⟩:=bi_ok h48
         refine go hΓ 5 rfl ?_
         refine eo_callF [0,1,2,3,4,5] (B y49) [mOb kS false (eH (some 0)) v_h.keys,mOb kS false (eH (some 0)) v_h.nodes,mOb kS false eB v_h.ever,mOb kS false (eV 107 3) v_h.History,.box 220 [.d (Sl eS v_h.d.Users),.d (Sl Kgj v_h.d.Owners),I v_h.d.Life,B v_h.d.Approve,.map 0,.map 1,.map 2,.map 3],bg al,.box 37 (fS s)] (callable Tryz.func279 rfl rfl) (Kki hy49) rfl (nBe rfl) rfl rfl rfl rfl rfl rfl rfl rfl rfl rfl ?_
         refine go_ops hΓ 3 rfl ?_
         refine j_cond rfl (fun hb=>?_) (fun hb=>?_)
         ·have h51:=cT h50 hb
          refine go hΓ 8 rfl ?_
          refine cv_here ?_
          obtain rfl:=oSi h51
          exact fin_objs hΓ [_] (.inr rfl) rfl rfl rfl rfl (.inr ⟨HB.mk rfl,rfl⟩)
         ·have h52:=cF h50 hb
          refine go hΓ 6 rfl ?_
          refine eo_o rfl (op_lenMap hΓ (kv:=kS) (agg:=false) (enc:=(eH (some 0))) v_h.nodes rfl rfl rfl rfl) ?_
          refine go_ops hΓ 4 rfl ?_
          refine j_cond rfl (fun hb=>?_) (fun hb=>?_)
          ·have h53:=cT h52 hb
           refine go hΓ 8 rfl ?_
           refine cv_here ?_
           obtain rfl:=oSi h53
           exact fin_objs hΓ [_] (.inr rfl) rfl rfl rfl rfl (.inr ⟨HB.mk rfl,rfl⟩)
          ·have h54:=cF h52 hb
           refine go hΓ 4 rfl ?_
           refine j_drawE [.dead,.dead,.dead,.dead,.box 220 [.d (Sl eS v_h.d.Users),.d (Sl Kgj v_h.d.Owners),I v_h.d.Life,B v_h.d.Approve,.map 0,.map 1,.map 2,.map 3],.dead,.box 37 (fS s)] [1,3,5,7,9,11,16,23] [26] [] hmix (by kernel_rfl) (by kernel_rfl) ⟨rfl,rfl,trivial⟩ (nBe rfl) ?_
           refine go_E hΓ 25 rfl ?_
           refine ge_q rfl (.inl rfl) (fun _ _=>qte_of_qt (qt_p (op_build hΓ (gs:=[S s.Node,S s.By,S s.Name,S s.Public,.d (Sl eS []),I s.At,I (if 345686400<(wi (s.At+v_h.d.Life)) then 345686400 else wi (s.At+v_h.d.Life)),B (!v_h.d.Approve)]) rfl rfl rfl rfl rfl rfl))) ?_
           refine ge_h [mOb kS false (eH (some 0)) v_h.keys,mOb kS false (eH (some 0)) v_h.nodes,mOb kS false eB v_h.ever,mOb kS false (eV 107 3) v_h.History,.box 220 [.d (Sl eS v_h.d.Users),.d (Sl Kgj v_h.d.Owners),I v_h.d.Life,B v_h.d.Approve,.map 0,.map 1,.map 2,.map 3],bg al,.box 37 (fS s),.box 77 [S s.Node,S s.By,S s.Name,S s.Public,.d (Sl eS []),I s.At,I (if 345686400<(wi (s.At+v_h.d.Life)) then 345686400 else wi (s.At+v_h.d.Life)),B (!v_h.d.Approve)]] rfl rfl rfl (st_st ⟨rfl,rfl,trivial⟩) (qte_s (ops_box rfl rfl rfl)) ?_
           refine go_E hΓ 1 rfl ?_
           refine ge_fin ?_
           refine go hΓ 5 rfl ?_
           refine eo_o rfl ((op_isNilP hΓ rfl rfl rfl rfl).2) ?_
           obtain ⟨q55,hq55,h56⟩:=bi_ok h54
           refine go_ops hΓ 2 rfl ?_
           refine j_cutNZ [(0,.ptr 4 0),(3,.ptr 6 0),(6,.ptr 7 0)] [mOb kS false (eH (some 0)) v_h.keys,mOb kS false (eH (some 0)) v_h.nodes,mOb kS false eB v_h.ever,mOb kS false (eV 107 3) v_h.History,.box 220 [.d (Sl eS v_h.d.Users),.d (Sl Kgj v_h.d.Owners),I v_h.d.Life,B v_h.d.Approve,.map 0,.map 1,.map 2,.map 3],bg q55.1,.box 37 (fS s),.box 77 [S q55.2.Node,S q55.2.User,S q55.2.Name,S q55.2.Public,.d (Sl eS q55.2.Tags),I q55.2.Joined,I q55.2.Expires,B q55.2.Approved]] ?_ ?_
           ·refine j_cond rfl (fun hb=>?_) (fun hb=>?_)
            ·have h57:=cT hq55 hb
             obtain ⟨hg59,h58⟩:=gd_ok h57
             refine go hΓ 3 rfl ?_
             refine eo_o rfl (op_nilCheckH hg59 rfl) ?_
             refine eo_o rfl (op_fieldAddrH hΓ hg59 rfl rfl rfl rfl rfl rfl) ?_
             obtain ⟨m60,hm60,h61⟩:=bi_ok h58
             refine eo_o rfl (op_loadH hΓ (enc:=Kgt) (bg:=5) m60 rfl rfl (ArU.r _ (ArU.r _ (ArU.r _ (ArU.l _ (arU_here (fun _ _=>rfl) hm60 m60))))) rfl (g:=I m60.used) rfl rfl) ?_
             obtain ⟨hg63,h62⟩:=gd_ok h61
             refine go_ops hΓ 1 rfl ?_
             refine eo_o rfl (op_nilCheckH hg63 rfl) ?_
             refine eo_o rfl (op_fieldAddrH hΓ hg63 rfl rfl rfl rfl rfl rfl) ?_
             obtain ⟨m64,hm64,h65⟩:=bi_ok h62
             refine eo_u (nBe rfl) (opu_storeH hΓ (enc:=Kgt) (bg:=5) m64 (⟨m64.Join,m64.revoked,wi (m60.used+1)⟩:Kbl) rfl rfl (ArU.r _ (ArU.r _ (ArU.r _ (ArU.l _ (arU_here (fun _ _=>rfl) hm64 (⟨m64.Join,m64.revoked,wi (m60.used+1)⟩:Kbl)))))) rfl rfl (by intro e; cases e) rfl rfl rfl rfl rfl rfl rfl) ?_
             refine eo_hp [mOb kS false (eH (some 0)) v_h.keys,mOb kS false (eH (some 0)) v_h.nodes,mOb kS false eB v_h.ever,mOb kS false (eV 107 3) v_h.History,.box 220 [.d (Sl eS v_h.d.Users),.d (Sl Kgj v_h.d.Owners),I v_h.d.Life,B v_h.d.Approve,.map 0,.map 1,.map 2,.map 3],.bag al.1 (arX al.2.1 al.2.2.1 al.2.2.2.1 (hSet al.2.2.2.2.1 ((mGet v_h.keys s.Join).getD 0) (⟨m64.Join,m64.revoked,wi (m60.used+1)⟩:Kbl)) al.2.2.2.2.2) [],.box 37 (fS s),.box 77 [S s.Node,S s.By,S s.Name,S s.Public,.d (Sl eS []),I s.At,I (if 345686400<(wi (s.At+v_h.d.Life)) then 345686400 else wi (s.At+v_h.d.Life)),B (!v_h.d.Approve)]] rfl ?_
             refine go_ops hΓ 10 rfl ?_
             obtain ⟨q66,hq66,h67⟩:=bi_ok h65
             refine o_cut 6 [(0,.ptr 4 0),(3,.ptr 6 0),(5,.d (.hd (some 0) ((mGet v_h.keys s.Join).getD 0))),(6,.ptr 7 0),(136,.ptr 7 0),(147,B q66)] [mOb kS false (eH (some 0)) v_h.keys,mOb kS false (eH (some 0)) v_h.nodes,mOb kS false eB v_h.ever,mOb kS false (eV 107 3) v_h.History,.box 220 [.d (Sl eS v_h.d.Users),.d (Sl Kgj v_h.d.Owners),I v_h.d.Life,B v_h.d.Approve,.map 0,.map 1,.map 2,.map 3],.bag al.1 (arX al.2.1 al.2.2.1 al.2.2.2.1 (hSet al.2.2.2.2.1 ((mGet v_h.keys s.Join).getD 0) (⟨m64.Join,m64.revoked,wi (m60.used+1)⟩:Kbl)) al.2.2.2.2.2) [],.box 37 (fS s),.box 77 [S s.Node,S s.By,S s.Name,S s.Public,.d (Sl eS []),I s.At,I (if 345686400<(wi (s.At+v_h.d.Life)) then 345686400 else wi (s.At+v_h.d.Life)),B (!v_h.d.Approve)]] ?_ ?_
             ·refine eo_gsplit rfl rfl (fun hb=>?_) (fun hb=>?_)
              ·have h68:=cT hq66 hb
               refine go_ops hΓ 7 rfl ?_
               obtain rfl:=oSi h68
               exact ⟨⟨rfl,rfl,rfl,rfl,rfl,rfl,trivial⟩,[],rfl,.inl rfl⟩
              ·have h69:=cF hq66 hb
               obtain ⟨hg71,h70⟩:=gd_ok h69
               refine go_ops hΓ 1 rfl ?_
               refine eo_guard rfl ?_
               refine eo_o rfl (op_nilCheckH hg71 rfl) ?_
               refine eo_guard rfl ?_
               refine eo_o rfl (op_fieldAddrH hΓ hg71 rfl rfl rfl rfl rfl rfl) ?_
               refine eo_guard rfl ?_
               refine eo_o rfl (op_fieldAddrH hΓ hg71 rfl rfl rfl rfl rfl rfl) ?_
               obtain ⟨m72,hm72,h73⟩:=bi_ok h70
               refine eo_guard rfl ?_
               refine eo_o rfl (op_loadH hΓ (enc:=Kgt) (bg:=5) m72 rfl rfl (ArU.r _ (ArU.r _ (ArU.r _ (ArU.l _ (arU_here (fun _ _=>rfl) hm72 m72))))) rfl (g:=B m72.Join.Ready) rfl rfl) ?_
               refine go_ops hΓ 2 rfl ?_
               obtain rfl:=oSi h73
               exact ⟨⟨rfl,rfl,rfl,rfl,rfl,rfl,trivial⟩,[],rfl,.inl rfl⟩
             ·refine go_ops hΓ 2 rfl ?_
              refine eo_store hΓ rfl rfl rfl rfl rfl rfl rfl rfl (nBe rfl) ?_
              refine eo_hp [mOb kS false (eH (some 0)) v_h.keys,mOb kS false (eH (some 0)) v_h.nodes,mOb kS false eB v_h.ever,mOb kS false (eV 107 3) v_h.History,.box 220 [.d (Sl eS v_h.d.Users),.d (Sl Kgj v_h.d.Owners),I v_h.d.Life,B v_h.d.Approve,.map 0,.map 1,.map 2,.map 3],.bag al.1 (arX al.2.1 al.2.2.1 al.2.2.2.1 (hSet al.2.2.2.2.1 ((mGet v_h.keys s.Join).getD 0) (⟨m64.Join,m64.revoked,wi (m60.used+1)⟩:Kbl)) al.2.2.2.2.2) [],.box 37 (fS s),.box 77 [S s.Node,S s.By,S s.Name,S s.Public,.d (Sl eS []),I s.At,I (if 345686400<(wi (s.At+v_h.d.Life)) then 345686400 else wi (s.At+v_h.d.Life)),B q66]] rfl ?_
              obtain ⟨hg75,h74⟩:=gd_ok h67
              refine go_ops hΓ 6 rfl ?_
              refine eo_o rfl (op_nilCheckH hg75 rfl) ?_
              refine eo_o rfl (op_fieldAddrH hΓ hg75 rfl rfl rfl rfl rfl rfl) ?_
              refine eo_o rfl (op_fieldAddrH hΓ hg75 rfl rfl rfl rfl rfl rfl) ?_
              obtain ⟨m76,hm76,h77⟩:=bi_ok h74
              refine eo_o rfl (op_loadH hΓ (enc:=Kgt) (bg:=5) m76 rfl rfl (ArU.r _ (ArU.r _ (ArU.r _ (ArU.l _ (arU_here (fun _ _=>rfl) hm76 m76))))) rfl (g:=S m76.Join.By) rfl rfl) ?_
              refine go_ops hΓ 2 rfl ?_
              refine eo_store hΓ rfl rfl rfl rfl rfl rfl rfl rfl (nBe rfl) ?_
              refine eo_hp [mOb kS false (eH (some 0)) v_h.keys,mOb kS false (eH (some 0)) v_h.nodes,mOb kS false eB v_h.ever,mOb kS false (eV 107 3) v_h.History,.box 220 [.d (Sl eS v_h.d.Users),.d (Sl Kgj v_h.d.Owners),I v_h.d.Life,B v_h.d.Approve,.map 0,.map 1,.map 2,.map 3],.bag al.1 (arX al.2.1 al.2.2.1 al.2.2.2.1 (hSet al.2.2.2.2.1 ((mGet v_h.keys s.Join).getD 0) (⟨m64.Join,m64.revoked,wi (m60.used+1)⟩:Kbl)) al.2.2.2.2.2) [],.box 37 (fS s),.box 77 [S s.Node,S m76.Join.By,S s.Name,S s.Public,.d (Sl eS []),I s.At,I (if 345686400<(wi (s.At+v_h.d.Life)) then 345686400 else wi (s.At+v_h.d.Life)),B q66]] rfl ?_
              obtain ⟨hg79,h78⟩:=gd_ok h77
              refine go_ops hΓ 5 rfl ?_
              refine eo_o rfl (op_nilCheckH hg79 rfl) ?_
              refine eo_o rfl (op_fieldAddrH hΓ hg79 rfl rfl rfl rfl rfl rfl) ?_
              refine eo_o rfl (op_fieldAddrH hΓ hg79 rfl rfl rfl rfl rfl rfl) ?_
              obtain ⟨m80,hm80,h81⟩:=bi_ok h78
              refine eo_o rfl (op_loadH hΓ (enc:=Kgt) (bg:=5) m80 rfl rfl (ArU.r _ (ArU.r _ (ArU.r _ (ArU.l _ (arU_here (fun _ _=>rfl) hm80 m80))))) rfl (g:=.d (Sl eS m80.Join.Tags)) rfl rfl) ?_
              refine go_ops hΓ 4 rfl ?_
              refine j_cond rfl (fun hb=>?_) (fun hb=>?_)
              ·have h82:=cT h81 hb
               obtain ⟨hg84,h83⟩:=gd_ok h82
               refine go hΓ 5 rfl ?_
               refine eo_o rfl (op_nilCheckH hg84 rfl) ?_
               refine eo_o rfl (op_fieldAddrH hΓ hg84 rfl rfl rfl rfl rfl rfl) ?_
               refine eo_o rfl (op_fieldAddrH hΓ hg84 rfl rfl rfl rfl rfl rfl) ?_
               obtain ⟨m85,hm85,h86⟩:=bi_ok h83
               refine eo_o rfl (op_loadH hΓ (enc:=Kgt) (bg:=5) m85 rfl rfl (ArU.r _ (ArU.r _ (ArU.r _ (ArU.l _ (arU_here (fun _ _=>rfl) hm85 m85))))) rfl (g:=.d (Sl eS m85.Join.Tags)) rfl rfl) ?_
               obtain ⟨y87,hy87,h88⟩:=bi_ok h86
               refine eo_callP (callable Tryz.func213 rfl rfl) (Pure.rows (Kjf hy87) rfl rfl) rfl (nBe rfl) rfl rfl rfl rfl rfl ?_
               refine go_ops hΓ 2 rfl ?_
               refine eo_store hΓ rfl rfl rfl rfl rfl rfl rfl rfl (nBe rfl) ?_
               refine eo_hp [mOb kS false (eH (some 0)) v_h.keys,mOb kS false (eH (some 0)) v_h.nodes,mOb kS false eB v_h.ever,mOb kS false (eV 107 3) v_h.History,.box 220 [.d (Sl eS v_h.d.Users),.d (Sl Kgj v_h.d.Owners),I v_h.d.Life,B v_h.d.Approve,.map 0,.map 1,.map 2,.map 3],.bag al.1 (arX al.2.1 al.2.2.1 al.2.2.2.1 (hSet al.2.2.2.2.1 ((mGet v_h.keys s.Join).getD 0) (⟨m64.Join,m64.revoked,wi (m60.used+1)⟩:Kbl)) al.2.2.2.2.2) [],.box 37 (fS s),.box 77 [S s.Node,S [],S s.Name,S s.Public,.d (Sl eS []),I s.At,I (if 345686400<(wi (s.At+v_h.d.Life)) then 345686400 else wi (s.At+v_h.d.Life)),B q66]] rfl ?_
               refine go_ops hΓ 2 rfl ?_
               refine eo_store hΓ rfl rfl rfl rfl rfl rfl rfl rfl (nBe rfl) ?_
               refine eo_hp [mOb kS false (eH (some 0)) v_h.keys,mOb kS false (eH (some 0)) v_h.nodes,mOb kS false eB v_h.ever,mOb kS false (eV 107 3) v_h.History,.box 220 [.d (Sl eS v_h.d.Users),.d (Sl Kgj v_h.d.Owners),I v_h.d.Life,B v_h.d.Approve,.map 0,.map 1,.map 2,.map 3],.bag al.1 (arX al.2.1 al.2.2.1 al.2.2.2.1 (hSet al.2.2.2.2.1 ((mGet v_h.keys s.Join).getD 0) (⟨m64.Join,m64.revoked,wi (m60.used+1)⟩:Kbl)) al.2.2.2.2.2) [],.box 37 (fS s),.box 77 [S s.Node,S [],S s.Name,S s.Public,.d (Sl eS y87),I s.At,I (if 345686400<(wi (s.At+v_h.d.Life)) then 345686400 else wi (s.At+v_h.d.Life)),B q66]] rfl ?_
               refine go_ops hΓ 2 rfl ?_
               refine eo_store hΓ rfl rfl rfl rfl rfl rfl rfl rfl (nBe rfl) ?_
               refine eo_hp [mOb kS false (eH (some 0)) v_h.keys,mOb kS false (eH (some 0)) v_h.nodes,mOb kS false eB v_h.ever,mOb kS false (eV 107 3) v_h.History,.box 220 [.d (Sl eS v_h.d.Users),.d (Sl Kgj v_h.d.Owners),I v_h.d.Life,B v_h.d.Approve,.map 0,.map 1,.map 2,.map 3],.bag al.1 (arX al.2.1 al.2.2.1 al.2.2.2.1 (hSet al.2.2.2.2.1 ((mGet v_h.keys s.Join).getD 0) (⟨m64.Join,m64.revoked,wi (m60.used+1)⟩:Kbl)) al.2.2.2.2.2) [],.box 37 (fS s),.box 77 [S s.Node,S [],S s.Name,S s.Public,.d (Sl eS y87),I s.At,I 345686400,B q66]] rfl ?_
               refine go_ops hΓ 1 rfl ?_
               obtain rfl:=oSi h88
               exact ⟨⟨rfl,rfl,rfl,trivial⟩,[],rfl,.inl rfl⟩
              ·have h89:=cF h81 hb
               refine go hΓ 1 rfl ?_
               obtain rfl:=oSi h89
               exact ⟨⟨rfl,rfl,rfl,trivial⟩,[],rfl,.inl rfl⟩
            ·have h90:=cF hq55 hb
             refine go hΓ 1 rfl ?_
             obtain rfl:=oSi h90
             exact ⟨⟨rfl,rfl,rfl,trivial⟩,[],rfl,.inl rfl⟩
           ·refine go hΓ 2 rfl ?_
            refine j_expose (kv:=kS) (agg:=false) (enc:=(eH (some 0))) (id:=1) v_h.nodes rfl (nBe rfl) (fun mr91 bs92 cl93 hbl94=>?_)
            refine j_hp [mOb kS false (eH (some 0)) v_h.keys,mObS kS false (eH (some 0)) v_h.nodes (rawM kS (eH (some 0)) mr91 bs92 cl93),mOb kS false eB v_h.ever,mOb kS false (eV 107 3) v_h.History,.box 220 [.d (Sl eS v_h.d.Users),.d (Sl Kgj v_h.d.Owners),I v_h.d.Life,B v_h.d.Approve,.map 0,.map 1,.map 2,.map 3],bg q55.1,.box 37 (fS s),.box 77 [S q55.2.Node,S q55.2.User,S q55.2.Name,S q55.2.Public,.d (Sl eS q55.2.Tags),I q55.2.Joined,I q55.2.Expires,B q55.2.Approved]] rfl ?_
            refine j_expose (kv:=kS) (agg:=false) (enc:=eB) (id:=2) v_h.ever rfl (nBe rfl) (fun mr95 bs96 cl97 hbl98=>?_)
            refine j_hp [mOb kS false (eH (some 0)) v_h.keys,mObS kS false (eH (some 0)) v_h.nodes (rawM kS (eH (some 0)) mr91 bs92 cl93),mObS kS false eB v_h.ever (rawM kS eB mr95 bs96 cl97),mOb kS false (eV 107 3) v_h.History,.box 220 [.d (Sl eS v_h.d.Users),.d (Sl Kgj v_h.d.Owners),I v_h.d.Life,B v_h.d.Approve,.map 0,.map 1,.map 2,.map 3],bg q55.1,.box 37 (fS s),.box 77 [S q55.2.Node,S q55.2.User,S q55.2.Name,S q55.2.Public,.d (Sl eS q55.2.Tags),I q55.2.Joined,I q55.2.Expires,B q55.2.Approved]] rfl ?_
            refine j_drawE [.dead,.dead,.dead,.dead,.box 220 [.d (Sl eS v_h.d.Users),.d (Sl Kgj v_h.d.Owners),I v_h.d.Life,B v_h.d.Approve,.map 0,.map 1,.map 2,.map 3],.dead,.box 37 (fS s)] [3,5,9,11] [13,15,16,18] [] hmix (by kernel_rfl) (by kernel_rfl) ⟨rfl,rfl,trivial⟩ (nBe rfl) ?_
            refine go_E hΓ 13 rfl ?_
            refine ge_h [mOb kS false (eH (some 0)) v_h.keys,mObS kS false (eH (some 0)) (mEnt v_h.nodes s.Node (0:Nat)) (rawM kS (eH (some 0)) (entR mr91 s.Node (0:Nat)) (entB mr91 bs92 cl93 s.Node) (entC mr91 cl93 s.Node)),mObS kS false eB v_h.ever (rawM kS eB mr95 bs96 cl97),mOb kS false (eV 107 3) v_h.History,.box 220 [.d (Sl eS v_h.d.Users),.d (Sl Kgj v_h.d.Owners),I v_h.d.Life,B v_h.d.Approve,.map 0,.map 1,.map 2,.map 3],bg q55.1,.box 37 (fS s),.box 77 [S q55.2.Node,S q55.2.User,S q55.2.Name,S q55.2.Public,.d (Sl eS q55.2.Tags),I q55.2.Joined,I q55.2.Expires,B q55.2.Approved]] rfl rfl rfl (st_st ⟨rfl,rfl,trivial⟩) (qte_s (ops_mapEntry hΓ (kv:=kS) (agg:=false) (enc:=(eH (some 0))) (id:=1) v_h.nodes mr91 s.Node (0:Nat) rfl rfl rfl rfl key_str rfl rfl rfl (zdv_hd rfl) rfl hbl94 rfl)) ?_
            refine go_E hΓ 1 rfl ?_
            refine ge_h0 [mOb kS false (eH (some 0)) v_h.keys,mOb kS false (eH (some 0)) (mSet v_h.nodes s.Node (q55.1.1.length+1)),mObS kS false eB v_h.ever (rawM kS eB mr95 bs96 cl97),mOb kS false (eV 107 3) v_h.History,.box 220 [.d (Sl eS v_h.d.Users),.d (Sl Kgj v_h.d.Owners),I v_h.d.Life,B v_h.d.Approve,.map 0,.map 1,.map 2,.map 3],.bag (q55.1.1++[false]) (arX q55.1.2.1 q55.1.2.2.1 ((q55.1.1.length,q55.2) :: q55.1.2.2.2.1) q55.1.2.2.2.2.1 q55.1.2.2.2.2.2) [],.box 37 (fS s),.dead] rfl rfl (st_st ⟨rfl,rfl,trivial⟩) (qte_u (opu_pre (gh_putP (hp2:=[mOb kS false (eH (some 0)) v_h.keys,mObS kS false (eH (some 0)) (mEnt v_h.nodes s.Node (0:Nat)) (rawM kS (eH (some 0)) (entR mr91 s.Node (0:Nat)) (entB mr91 bs92 cl93 s.Node) (entC mr91 cl93 s.Node)),mObS kS false eB v_h.ever (rawM kS eB mr95 bs96 cl97),mOb kS false (eV 107 3) v_h.History,.box 220 [.d (Sl eS v_h.d.Users),.d (Sl Kgj v_h.d.Owners),I v_h.d.Life,B v_h.d.Approve,.map 0,.map 1,.map 2,.map 3],.bag (q55.1.1++[false]) (arX q55.1.2.1 q55.1.2.2.1 ((q55.1.1.length,q55.2) :: q55.1.2.2.2.1) q55.1.2.2.2.2.1 q55.1.2.2.2.2.2) [],.box 37 (fS s),.dead]) (bg:=5) (id:=7) (a:=(fB 77 Kgo) q55.1.1.length q55.2) [(192,some 0)] ⟨rfl,trivial⟩ rfl rfl ⟨rfl,rfl⟩ rfl rfl (arN_r _ (arN_r _ (arN_l _ arN_here))) rfl rfl) (opu_entryStore (kv:=kS) (agg:=false) (enc:=(eH (some 0))) (id:=1) v_h.nodes mr91 s.Node (0:Nat) (q55.1.1.length+1) key_str rfl rfl rfl rfl rfl hbl94 rfl) (nBe rfl))) ?_
            refine ge_h [mOb kS false (eH (some 0)) v_h.keys,mOb kS false (eH (some 0)) (mSet v_h.nodes s.Node (q55.1.1.length+1)),mObS kS false eB (mEnt v_h.ever s.Node (false:Bool)) (rawM kS eB (entR mr95 s.Node (false:Bool)) (entB mr95 bs96 cl97 s.Node) (entC mr95 cl97 s.Node)),mOb kS false (eV 107 3) v_h.History,.box 220 [.d (Sl eS v_h.d.Users),.d (Sl Kgj v_h.d.Owners),I v_h.d.Life,B v_h.d.Approve,.map 0,.map 1,.map 2,.map 3],.bag (q55.1.1++[false]) (arX q55.1.2.1 q55.1.2.2.1 ((q55.1.1.length,q55.2) :: q55.1.2.2.2.1) q55.1.2.2.2.2.1 q55.1.2.2.2.2.2) [],.box 37 (fS s),.dead] rfl rfl rfl (st_st ⟨rfl,rfl,trivial⟩) (qte_s (ops_mapEntry hΓ (kv:=kS) (agg:=false) (enc:=eB) (id:=2) v_h.ever mr95 s.Node (false:Bool) rfl rfl rfl rfl key_str rfl rfl rfl (zdv_plain rfl rfl rfl) rfl hbl98 rfl)) ?_
            refine go_E hΓ 1 rfl ?_
            refine ge_h0 [mOb kS false (eH (some 0)) v_h.keys,mOb kS false (eH (some 0)) (mSet v_h.nodes s.Node (q55.1.1.length+1)),mOb kS false eB (mSet v_h.ever s.Node true),mOb kS false (eV 107 3) v_h.History,.box 220 [.d (Sl eS v_h.d.Users),.d (Sl Kgj v_h.d.Owners),I v_h.d.Life,B v_h.d.Approve,.map 0,.map 1,.map 2,.map 3],.bag (q55.1.1++[false]) (arX q55.1.2.1 q55.1.2.2.1 ((q55.1.1.length,q55.2) :: q55.1.2.2.2.1) q55.1.2.2.2.2.1 q55.1.2.2.2.2.2) [],.box 37 (fS s),.dead] rfl rfl (st_st ⟨rfl,rfl,trivial⟩) (qte_u (opu_entryStore (kv:=kS) (agg:=false) (enc:=eB) (id:=2) v_h.ever mr95 s.Node (false:Bool) true key_str rfl rfl rfl rfl rfl hbl98 rfl)) ?_
            refine ge_fin ?_
            refine go hΓ 2 rfl ?_
            refine j_drawE [.dead,.dead,.dead,.dead,.box 220 [.d (Sl eS v_h.d.Users),.d (Sl Kgj v_h.d.Owners),I v_h.d.Life,B v_h.d.Approve,.map 0,.map 1,.map 2,.map 3],.dead,.box 37 (fS s)] [3,5,7,9] [11,12] [] hmix (by kernel_rfl) (by kernel_rfl) ⟨rfl,rfl,trivial⟩ (nBe rfl) ?_
            refine go_E hΓ 10 rfl ?_
            refine ge_q rfl (.inl rfl) (fun _ _=>qte_of_qt (qt_p (op_build hΓ (gs:=[S s.Public,I s.At,I 345686400]) rfl rfl rfl rfl rfl rfl))) ?_
            refine ge_h [mOb kS false (eH (some 0)) v_h.keys,mOb kS false (eH (some 0)) (mSet v_h.nodes s.Node (q55.1.1.length+1)),mOb kS false eB (mSet v_h.ever s.Node true),mOb kS false (eV 107 3) v_h.History,.box 220 [.d (Sl eS v_h.d.Users),.d (Sl Kgj v_h.d.Owners),I v_h.d.Life,B v_h.d.Approve,.map 0,.map 1,.map 2,.map 3],.bag (q55.1.1++[false]) (arX q55.1.2.1 q55.1.2.2.1 ((q55.1.1.length,q55.2) :: q55.1.2.2.2.1) q55.1.2.2.2.2.1 q55.1.2.2.2.2.2) [],.box 37 (fS s),.dead,rO 107 3 Kgu [(⟨s.Public,s.At,345686400⟩:Kbm)]] rfl rfl rfl (st_st ⟨rfl,rfl,trivial⟩) (qte_s (ops_litRowT hΓ (enc:=Kgu) [(⟨s.Public,s.At,345686400⟩:Kbm)] rfl rfl rfl rfl rfl rfl rfl rfl rfl rfl rfl rfl rfl rfl)) ?_
            refine ge_h0 [mOb kS false (eH (some 0)) v_h.keys,mOb kS false (eH (some 0)) (mSet v_h.nodes s.Node (q55.1.1.length+1)),mOb kS false eB (mSet v_h.ever s.Node true),mOb kS false (eV 107 3) (mSet v_h.History s.Node ((q55.1.1++[false]).length+1,[(⟨s.Public,s.At,345686400⟩:Kbm)].length)),.box 220 [.d (Sl eS v_h.d.Users),.d (Sl Kgj v_h.d.Owners),I v_h.d.Life,B v_h.d.Approve,.map 0,.map 1,.map 2,.map 3],.bag ((q55.1.1++[false])++[true]) (arX q55.1.2.1 (((q55.1.1++[false]).length,[(⟨s.Public,s.At,345686400⟩:Kbm)]) :: q55.1.2.2.1) ((q55.1.1.length,q55.2) :: q55.1.2.2.2.1) q55.1.2.2.2.2.1 q55.1.2.2.2.2.2) [],.box 37 (fS s),.dead,.dead] rfl rfl (st_st ⟨rfl,rfl,trivial⟩) (qte_u (opu_pre (gh_rowV (hp2:=[mOb kS false (eH (some 0)) v_h.keys,mOb kS false (eH (some 0)) (mSet v_h.nodes s.Node (q55.1.1.length+1)),mOb kS false eB (mSet v_h.ever s.Node true),mOb kS false (eV 107 3) v_h.History,.box 220 [.d (Sl eS v_h.d.Users),.d (Sl Kgj v_h.d.Owners),I v_h.d.Life,B v_h.d.Approve,.map 0,.map 1,.map 2,.map 3],.bag ((q55.1.1++[false])++[true]) (arX q55.1.2.1 (((q55.1.1++[false]).length,[(⟨s.Public,s.At,345686400⟩:Kbm)]) :: q55.1.2.2.1) ((q55.1.1.length,q55.2) :: q55.1.2.2.2.1) q55.1.2.2.2.2.1 q55.1.2.2.2.2.2) [],.box 37 (fS s),.dead,.dead]) (enc:=Kgu) (id:=8) (bg:=5) 208 (nblt.1 rfl) (nblt.1 rfl) rfl rfl rfl (arN_r _ (arN_l _ arN_here)) rfl rfl) (opu_mapUpdate hΓ (kv:=kS) (agg:=false) (enc:=(eV 107 3)) (id:=3) v_h.History s.Node ((q55.1.1++[false]).length+1,[(⟨s.Public,s.At,345686400⟩:Kbm)].length) rfl rfl rfl key_str rfl rfl rfl rfl rfl) (nBe rfl))) ?_
            refine ge_fin ?_
            refine go hΓ 7 rfl ?_
            refine cv_here ?_
            obtain rfl:=oSi h56
            exact fin_objs hΓ [_,_,_] (.inr rfl) rfl rfl rfl rfl (.inr ⟨HB.mk rfl,rfl⟩)
theorem Kft {t:Str} {x:Kba} {x2:Str} {r:Bool} (h:Kfc t x x2=some r):EC Tryz.prog 247 [S t,.ptr 0 0,.ptr 1 0] [.box 29 (fD x),.box 9 [S x2]] fun g hp'=>g=B r∧hp'=[.box 29 (fD x),.box 9 [S x2]]:=by
 refine ec_enter (Fr.of 0 _) Tryz.func247 rfl (Fr.of_ok _) (nBe rfl) fun _=>?_
 refine go_in ?_
 unfold Kfc at h
 obtain ⟨y1,hy1,h2⟩:=bi_ok h
 refine go hΓ 9 rfl ?_
 refine eo_callP (callable Tryz.func109 rfl rfl) (Kkf hy1) rfl (nBe rfl) rfl rfl rfl rfl rfl ?_
 obtain ⟨y3,hy3,h4⟩:=bi_ok h2
 refine go_ops hΓ 11 rfl ?_
 refine eo_callP (callable Tryz.func61 rfl rfl) (Kht hy3) rfl (nBe rfl) rfl rfl rfl rfl rfl ?_
 refine go_ops hΓ 4 rfl ?_
 obtain rfl:=oSi h4
 exact fin_objs hΓ [] (.inr rfl) rfl rfl rfl rfl (.inl rfl)
theorem Kfu {s:List Str} {f:Kba} {f2:Str} {r:Int} (h:Kfd s f f2=some r):EC Tryz.prog 246 [.d (Sl eS s),.fn (.func 247) [] [.ptr 0 0,.ptr 1 0]] [.box 29 (fD f),.box 9 [S f2]] fun g hp'=>g=I r∧hp'=[.box 29 (fD f),.box 9 [S f2]]:=by
 refine ec_enter (Fr.of 0 _) Tryz.func246 rfl (Fr.of_ok _) (nBe rfl) fun _=>?_
 refine go_in ?_
 unfold Kfd at h
 refine go hΓ 13 rfl ?_
 obtain ⟨q4,hq4,h5⟩:=bi_ok h
 refine j_bound 0 rfl fun hb7=>?_
 refine j_cutEZ (R:=fun a6=>q4=.go a6) (fun a6=>[]) (fun a6=>[.box 29 (fD f),.box 9 [S f2]]) ?_ ?_
 ·refine go hΓ 1 rfl ?_
  refine j_range s hq4 (fun i1 s2=>[(0,.d (Sl eS s)),(1,.fn (.func 247) [] [.ptr 0 0,.ptr 1 0]),(7,I (s.length:Int)),(8,I (i1:Int))]) (fun s2=>[.box 29 (fD f),.box 9 [S f2]]) ⟨⟨rfl,rfl,rfl,rfl,trivial⟩,[],rfl,.inl rfl⟩ (fun i1 x3 s2 y11 hx8 hlt hy9 hout10=>?_) (fun s2 hgo=>?_)
  ·refine go hΓ 6 rfl ?_
   refine j_condT rfl (decide_eq_true (Int.ofNat_lt.2 hlt)) ?_
   refine go hΓ 15 rfl ?_
   refine eo_o rfl (op_elemZ hΓ (enc:=eS) (getZ_nat hx8) rfl rfl rfl rfl rfl (fun _=>rfl)) ?_
   obtain ⟨y12,hy12,h13⟩:=bi_ok hy9
   refine go_ops hΓ 1 rfl ?_
   refine eo_callF [0,1] (B y12) [.box 29 (fD f),.box 9 [S f2]] (callable Tryz.func247 rfl rfl) (Kft hy12) rfl (nBe rfl) rfl rfl rfl rfl rfl rfl rfl rfl rfl rfl ?_
   refine go_ops hΓ 2 rfl ?_
   refine j_cond rfl (fun hb=>?_) (fun hb=>?_)
   ·have h14:=cT h13 hb
    refine go hΓ 9 rfl ?_
    obtain ⟨v15,hv15,h16⟩:=bi_ok h14
    obtain rfl:=oSi h16
    obtain rfl:=hout10 _ rfl
    obtain rfl:=oSi h5
    refine go hΓ 4 rfl ?_
    obtain rfl:=oSi hv15
    exact fin_objs hΓ [] (.inr rfl) rfl rfl rfl rfl (.inl rfl)
   ·have h17:=cF h13 hb
    refine go hΓ 7 rfl ?_
    obtain rfl:=oSi h17
    exact ⟨_,rfl,⟨⟨rfl,rfl,rfl,get_eq rfl (w64_succ (Nat.lt_of_lt_of_le hlt hb7)),trivial⟩,[],rfl,.inl rfl⟩⟩
  ·subst hgo
   refine go hΓ 6 rfl ?_
   refine j_condF rfl (decide_eq_false (Int.lt_irrefl _)) ?_
   refine go hΓ 4 rfl ?_
   exact ⟨_,rfl,⟨trivial,[],rfl,.inl rfl⟩⟩
 ·intro a6 ha
  subst ha
  replace h5:=goI_l h5
  refine go hΓ 7 rfl ?_
  obtain rfl:=oSi h5
  exact fin_objs hΓ [] (.inr rfl) rfl rfl rfl rfl (.inl rfl)
theorem Kfv {s:List Str} {f:Kba} {f2:Str} {r:Bool} (h:Kfe s f f2=some r):EC Tryz.prog 158 [.d (Sl eS s),.fn (.func 247) [] [.ptr 0 0,.ptr 1 0]] [.box 29 (fD f),.box 9 [S f2]] fun g hp'=>g=B r∧hp'=[.box 29 (fD f),.box 9 [S f2]]:=by
 refine ec_enter (Fr.of 0 _) Tryz.func158 rfl (Fr.of_ok _) (nBe rfl) fun _=>?_
 refine go_in ?_
 unfold Kfe at h
 obtain ⟨y1,hy1,h2⟩:=bi_ok h
 refine go hΓ 9 rfl ?_
 refine eo_callF [0,1] (I y1) [.box 29 (fD f),.box 9 [S f2]] (callable Tryz.func246 rfl rfl) (Kfu hy1) rfl (nBe rfl) rfl rfl rfl rfl rfl rfl rfl rfl rfl rfl ?_
 refine go_ops hΓ 5 rfl ?_
 obtain rfl:=oSi h2
 exact fin_objs hΓ [] (.inr rfl) rfl rfl rfl rfl (.inl rfl)
theorem Kfw {d:Kba} {user:Str} {m:Kbe} {r:Bool} (h:Kff d user m=some r):Pure Tryz.prog 160 [.agg (fD d),S user,.agg [S m.Node,S m.User,S m.Name,S m.Public,.d (Sl eS m.Tags),I m.Joined,I m.Expires,B m.Approved]] (B r):=by
 refine Pure.enter (Fr.of 0 _) Tryz.func160 rfl (Fr.of_ok _) rfl rfl ?_
 refine go_in ?_
 unfold Kff at h
 refine go hΓ 2 rfl ?_
 refine eo_box rfl rfl rfl rfl (nBe rfl) ?_
 refine eo_box rfl rfl rfl rfl (nBe rfl) ?_
 refine eo_box rfl rfl rfl rfl (nBe rfl) ?_
 refine go_ops hΓ 10 rfl ?_
 obtain ⟨q1,hq1,h2⟩:=bi_ok h
 refine o_cut 5 [(6,B false),(16,B q1)] [.box 29 (fD d),.box 9 [S user],.box 77 [S m.Node,S m.User,S m.Name,S m.Public,.d (Sl eS m.Tags),I m.Joined,I m.Expires,B m.Approved]] ?_ ?_
 ·refine eo_gsplit rfl rfl (fun hb=>?_) (fun hb=>?_)
  ·have h3:=cT hq1 hb
   refine go_ops hΓ 6 rfl ?_
   obtain rfl:=oSi h3
   exact ⟨⟨rfl,rfl,trivial⟩,[],rfl,.inl rfl⟩
  ·have h4:=cF hq1 hb
   obtain ⟨y5,hy5,h6⟩:=bi_ok h4
   refine go_ops hΓ 3 rfl ?_
   refine eo_guard rfl ?_
   refine eo_callF [0,1] (B y5) [.box 29 (fD d),.box 9 [S user],.box 77 [S m.Node,S m.User,S m.Name,S m.Public,.d (Sl eS m.Tags),I m.Joined,I m.Expires,B m.Approved]] (callable Tryz.func158 rfl rfl) (Kfv hy5) rfl (nBe rfl) rfl rfl rfl rfl rfl rfl rfl rfl rfl rfl ?_
   refine go_ops hΓ 2 rfl ?_
   obtain rfl:=oSi h6
   exact ⟨⟨rfl,rfl,trivial⟩,[],rfl,.inl rfl⟩
 ·refine go_ops hΓ 4 rfl ?_
  obtain rfl:=oSi h2
  exact fin_pure hΓ (.inr rfl) rfl rfl
set_option maxHeartbeats 8000000 in
theorem Kfx {v_h:Kbk} {s:Kbb} {m:Nat} {al:BagT} {r:Int×Kbk×BagT} (h:Kfg v_h s m al=some r):EC Tryz.prog 204 [.ptr 4 0,.agg (fS s),.d (.hd (some 0) m)] [mOb kS false (eH (some 0)) v_h.keys,mOb kS false (eH (some 0)) v_h.nodes,mOb kS false eB v_h.ever,mOb kS false (eV 107 3) v_h.History,.box 220 [.d (Sl eS v_h.d.Users),.d (Sl Kgj v_h.d.Owners),I v_h.d.Life,B v_h.d.Approve,.map 0,.map 1,.map 2,.map 3],bg al] fun g hp'=>g=I r.1∧hp'=[mOb kS false (eH (some 0)) r.2.1.keys,mOb kS false (eH (some 0)) r.2.1.nodes,mOb kS false eB r.2.1.ever,mOb kS false (eV 107 3) r.2.1.History,.box 220 [.d (Sl eS r.2.1.d.Users),.d (Sl Kgj r.2.1.d.Owners),I r.2.1.d.Life,B r.2.1.d.Approve,.map 0,.map 1,.map 2,.map 3],bg r.2.2]:=by
 refine ec_enterC (Fr.of 0 _) Tryz.func204 rfl (Fr.of_ok _) (nBe rfl) fun _=>?_
 refine go_in ?_
 unfold Kfg at h
 refine go hΓ 2 rfl ?_
 refine eo_box rfl rfl rfl rfl (nBe rfl) ?_
 refine go_ops hΓ 4 rfl ?_
 refine j_draw hmix (by kernel_rfl) ?_
 refine go hΓ 6 rfl ?_
 refine gl_o rfl (op_lookupG hΓ (kv:=kS) (agg:=false) (enc:=(eV 107 3)) v_h.History s.Node ((0,0):Vl) rfl rfl rfl rfl key_str rfl rfl rfl (zdv_rv rfl) rfl) ?_
 obtain ⟨q1,hq1,h2⟩:=bi_ok h
 refine go_draw hΓ 10 rfl ?_
 refine j_cutSZ (q:=q1) (fun a3=>[]) (fun a3=>[mOb kS false (eH (some 0)) v_h.keys,mOb kS false (eH (some 0)) a3.1,mOb kS false eB v_h.ever,mOb kS false (eV 107 3) a3.2.1,.box 220 [.d (Sl eS v_h.d.Users),.d (Sl Kgj v_h.d.Owners),I v_h.d.Life,B v_h.d.Approve,.map 0,.map 1,.map 2,.map 3],bg a3.2.2,.box 37 (fS s)]) ?_ ?_
 ·refine go hΓ 7 rfl ?_
  refine j_cond rfl (fun hb=>?_) (fun hb=>?_)
  ·have h4:=cT hq1 hb
   obtain ⟨y5,hy5,h6⟩:=bi_ok h4
   refine go hΓ 6 rfl ?_
   refine eo_callF [0,1,2,3,4,5] (B y5) [mOb kS false (eH (some 0)) v_h.keys,mOb kS false (eH (some 0)) v_h.nodes,mOb kS false eB v_h.ever,mOb kS false (eV 107 3) v_h.History,.box 220 [.d (Sl eS v_h.d.Users),.d (Sl Kgj v_h.d.Owners),I v_h.d.Life,B v_h.d.Approve,.map 0,.map 1,.map 2,.map 3],bg al,.box 37 (fS s)] (callable Tryz.func279 rfl rfl) (Kki hy5) rfl (nBe rfl) rfl rfl rfl rfl rfl rfl rfl rfl rfl rfl ?_
   refine go_ops hΓ 2 rfl ?_
   refine j_cond rfl (fun hb=>?_) (fun hb=>?_)
   ·have h7:=cT h6 hb
    refine go hΓ 8 rfl ?_
    obtain ⟨v8,hv8,h9⟩:=bi_ok h7
    obtain rfl:=oSi h9
    obtain rfl:=oSi h2
    refine go hΓ 2 rfl ?_
    refine cv_here ?_
    obtain rfl:=oSi hv8
    exact fin_objs hΓ [_] (.inr rfl) rfl rfl rfl rfl (.inr ⟨HB.mk rfl,rfl⟩)
   ·have h10:=cF h6 hb
    obtain ⟨hg12,h11⟩:=gd_ok h10
    refine go hΓ 7 rfl ?_
    refine eo_o rfl (op_nilCheckH hg12 rfl) ?_
    refine eo_o rfl (op_fieldAddrH hΓ hg12 rfl rfl rfl rfl rfl rfl) ?_
    obtain ⟨m13,hm13,h14⟩:=bi_ok h11
    refine eo_u (nBe rfl) (opu_storeH hΓ (enc:=Kgo) (bg:=5) m13 (⟨m13.Node,m13.User,m13.Name,s.Public,m13.Tags,m13.Joined,m13.Expires,m13.Approved⟩:Kbe) rfl rfl (ArU.r _ (ArU.r _ (ArU.l _ (arU_here (fun _ _=>rfl) hm13 (⟨m13.Node,m13.User,m13.Name,s.Public,m13.Tags,m13.Joined,m13.Expires,m13.Approved⟩:Kbe))))) rfl rfl (by intro e; cases e) rfl rfl rfl rfl rfl rfl rfl) ?_
    refine eo_hp [mOb kS false (eH (some 0)) v_h.keys,mOb kS false (eH (some 0)) v_h.nodes,mOb kS false eB v_h.ever,mOb kS false (eV 107 3) v_h.History,.box 220 [.d (Sl eS v_h.d.Users),.d (Sl Kgj v_h.d.Owners),I v_h.d.Life,B v_h.d.Approve,.map 0,.map 1,.map 2,.map 3],.bag al.1 (arX al.2.1 al.2.2.1 (hSet al.2.2.2.1 m (⟨m13.Node,m13.User,m13.Name,s.Public,m13.Tags,m13.Joined,m13.Expires,m13.Approved⟩:Kbe)) al.2.2.2.2.1 al.2.2.2.2.2) [],.box 37 (fS s)] rfl ?_
    obtain ⟨hg16,h15⟩:=gd_ok h14
    refine go_ops hΓ 5 rfl ?_
    refine eo_o rfl (op_nilCheckH hg16 rfl) ?_
    refine eo_o rfl (op_fieldAddrH hΓ hg16 rfl rfl rfl rfl rfl rfl) ?_
    obtain ⟨m17,hm17,h18⟩:=bi_ok h15
    refine eo_u (nBe rfl) (opu_storeH hΓ (enc:=Kgo) (bg:=5) m17 (⟨m17.Node,m17.User,m17.Name,m17.Public,m17.Tags,m17.Joined,345686400,m17.Approved⟩:Kbe) rfl rfl (ArU.r _ (ArU.r _ (ArU.l _ (arU_here (fun _ _=>rfl) hm17 (⟨m17.Node,m17.User,m17.Name,m17.Public,m17.Tags,m17.Joined,345686400,m17.Approved⟩:Kbe))))) rfl rfl (by intro e; cases e) rfl rfl rfl rfl rfl rfl rfl) ?_
    refine eo_hp [mOb kS false (eH (some 0)) v_h.keys,mOb kS false (eH (some 0)) v_h.nodes,mOb kS false eB v_h.ever,mOb kS false (eV 107 3) v_h.History,.box 220 [.d (Sl eS v_h.d.Users),.d (Sl Kgj v_h.d.Owners),I v_h.d.Life,B v_h.d.Approve,.map 0,.map 1,.map 2,.map 3],.bag al.1 (arX al.2.1 al.2.2.1 (hSet (hSet al.2.2.2.1 m (⟨m13.Node,m13.User,m13.Name,s.Public,m13.Tags,m13.Joined,m13.Expires,m13.Approved⟩:Kbe)) m (⟨m17.Node,m17.User,m17.Name,m17.Public,m17.Tags,m17.Joined,345686400,m17.Approved⟩:Kbe)) al.2.2.2.2.1 al.2.2.2.2.2) [],.box 37 (fS s)] rfl ?_
    obtain ⟨hg20,h19⟩:=gd_ok h18
    refine go_ops hΓ 6 rfl ?_
    refine eo_o rfl (op_nilCheckH hg20 rfl) ?_
    refine eo_o rfl (op_fieldAddrH hΓ hg20 rfl rfl rfl rfl rfl rfl) ?_
    obtain ⟨m21,hm21,h22⟩:=bi_ok h19
    refine eo_o rfl (op_loadH hΓ (enc:=Kgo) (bg:=5) m21 rfl rfl (ArU.r _ (ArU.r _ (ArU.l _ (arU_here (fun _ _=>rfl) hm21 m21)))) rfl (g:=S m21.User) rfl rfl) ?_
    obtain ⟨q23,hq23,h24⟩:=bi_ok h22
    refine go_ops hΓ 3 rfl ?_
    refine j_cutNZ [(0,.ptr 4 0),(4,.ptr 6 0),(7,.d (.rv 107 3 ((mGet v_h.History s.Node).getD (0,0)).1 ((mGet v_h.History s.Node).getD (0,0)).2))] [mOb kS false (eH (some 0)) v_h.keys,mOb kS false (eH (some 0)) v_h.nodes,mOb kS false eB v_h.ever,mOb kS false (eV 107 3) v_h.History,.box 220 [.d (Sl eS v_h.d.Users),.d (Sl Kgj v_h.d.Owners),I v_h.d.Life,B v_h.d.Approve,.map 0,.map 1,.map 2,.map 3],bg q23,.box 37 (fS s)] ?_ ?_
    ·refine j_cond rfl (fun hb=>?_) (fun hb=>?_)
     ·have h25:=cT hq23 hb
      refine j_drawE [.dead,.dead,.dead,.dead,.box 220 [.d (Sl eS v_h.d.Users),.d (Sl Kgj v_h.d.Owners),I v_h.d.Life,B v_h.d.Approve,.map 0,.map 1,.map 2,.map 3],.dead,.box 37 (fS s)] [2,7] [12] [] hmix (by kernel_rfl) (by kernel_rfl) ⟨rfl,rfl,trivial⟩ (nBe rfl) ?_
      obtain ⟨hg27,h26⟩:=gd_ok h25
      refine go_E hΓ 10 rfl ?_
      refine ge_q rfl (.inl rfl) (fun _ _=>qte_of_qt (qt_p (op_nilCheckH hg27 rfl))) ?_
      refine ge_q rfl (.inl rfl) (fun _ _=>qte_of_qt (qt_p (op_fieldAddrH hΓ hg27 rfl rfl rfl rfl rfl rfl))) ?_
      obtain ⟨m28,hm28,h29⟩:=bi_ok h26
      refine ge_h0 [mOb kS false (eH (some 0)) v_h.keys,mOb kS false (eH (some 0)) v_h.nodes,mOb kS false eB v_h.ever,mOb kS false (eV 107 3) v_h.History,.box 220 [.d (Sl eS v_h.d.Users),.d (Sl Kgj v_h.d.Owners),I v_h.d.Life,B v_h.d.Approve,.map 0,.map 1,.map 2,.map 3],.bag al.1 (arX al.2.1 al.2.2.1 (hSet (hSet (hSet al.2.2.2.1 m (⟨m13.Node,m13.User,m13.Name,s.Public,m13.Tags,m13.Joined,m13.Expires,m13.Approved⟩:Kbe)) m (⟨m17.Node,m17.User,m17.Name,m17.Public,m17.Tags,m17.Joined,345686400,m17.Approved⟩:Kbe)) m (⟨m28.Node,m28.User,m28.Name,m28.Public,m28.Tags,m28.Joined,(if 345686400<(wi (s.At+v_h.d.Life)) then 345686400 else wi (s.At+v_h.d.Life)),m28.Approved⟩:Kbe)) al.2.2.2.2.1 al.2.2.2.2.2) [],.box 37 (fS s)] rfl rfl (st_st ⟨rfl,rfl,trivial⟩) (qte_u (opu_storeH hΓ (enc:=Kgo) (bg:=5) m28 (⟨m28.Node,m28.User,m28.Name,m28.Public,m28.Tags,m28.Joined,(if 345686400<(wi (s.At+v_h.d.Life)) then 345686400 else wi (s.At+v_h.d.Life)),m28.Approved⟩:Kbe) rfl rfl (ArU.r _ (ArU.r _ (ArU.l _ (arU_here (fun _ _=>rfl) hm28 (⟨m28.Node,m28.User,m28.Name,m28.Public,m28.Tags,m28.Joined,(if 345686400<(wi (s.At+v_h.d.Life)) then 345686400 else wi (s.At+v_h.d.Life)),m28.Approved⟩:Kbe))))) rfl rfl (by intro e; cases e) rfl rfl rfl rfl rfl rfl rfl)) ?_
      refine ge_fin ?_
      obtain rfl:=oSi h29
      exact ⟨⟨rfl,rfl,rfl,trivial⟩,[],rfl,.inl rfl⟩
     ·have h30:=cF hq23 hb
      refine go hΓ 1 rfl ?_
      obtain rfl:=oSi h30
      exact ⟨⟨rfl,rfl,rfl,trivial⟩,[],rfl,.inl rfl⟩
    ·refine go hΓ 5 rfl ?_
     refine eo_o rfl (op_lenV hΓ rfl rfl rfl) ?_
     obtain ⟨hg32,h31⟩:=gd_ok h24
     obtain ⟨hg34,h33⟩:=gd_ok h31
     refine go_ops hΓ 3 rfl ?_
     refine eo_o rfl (op_elemV hΓ hg34 rfl rfl rfl rfl rfl rfl) ?_
     refine eo_o rfl (op_fieldAddrH hΓ hg32 rfl rfl rfl rfl rfl rfl) ?_
     obtain ⟨m35,hm35,h36⟩:=bi_ok h33
     obtain ⟨x37,hx37,h38⟩:=bi_ok h36
     have hj39:=getZ_at hx37
     refine eo_u (nBe rfl) (opu_storeV hΓ (enc:=Kgu) (bg:=5) (z':=(⟨x37.Public,x37.From,s.At⟩:Kbm)) (wi (((((mGet v_h.History s.Node).getD (0,0)).2:Nat):Int) - 1)).toNat 2 hj39 rfl rfl rfl (ArU.r _ (ArU.l _ (arU_here (fun _ _=>rfl) hm35 (m35.set (wi (((((mGet v_h.History s.Node).getD (0,0)).2:Nat):Int) - 1)).toNat (⟨x37.Public,x37.From,s.At⟩:Kbm))))) rfl (fun _=>rfl) rfl rfl rfl rfl rfl rfl rfl) ?_
     refine eo_hp [mOb kS false (eH (some 0)) v_h.keys,mOb kS false (eH (some 0)) v_h.nodes,mOb kS false eB v_h.ever,mOb kS false (eV 107 3) v_h.History,.box 220 [.d (Sl eS v_h.d.Users),.d (Sl Kgj v_h.d.Owners),I v_h.d.Life,B v_h.d.Approve,.map 0,.map 1,.map 2,.map 3],.bag q23.1 (arX q23.2.1 (hSet q23.2.2.1 (((mGet v_h.History s.Node).getD (0,0)).1) (m35.set (wi (((((mGet v_h.History s.Node).getD (0,0)).2:Nat):Int) - 1)).toNat (⟨x37.Public,x37.From,s.At⟩:Kbm))) q23.2.2.2.1 q23.2.2.2.2.1 q23.2.2.2.2.2) [],.box 37 (fS s)] rfl ?_
     refine go_ops hΓ 2 rfl ?_
     refine j_drawE [.dead,.dead,.dead,.dead,.box 220 [.d (Sl eS v_h.d.Users),.d (Sl Kgj v_h.d.Owners),I v_h.d.Life,B v_h.d.Approve,.map 0,.map 1,.map 2,.map 3],.dead,.box 37 (fS s)] [3,5,8,10] [13,14] [] hmix (by kernel_rfl) (by kernel_rfl) ⟨rfl,rfl,trivial⟩ (nBe rfl) ?_
     refine go_E hΓ 11 rfl ?_
     refine ge_q rfl (.inl rfl) (fun _ _=>qte_of_qt (qt_p (op_build hΓ (gs:=[S s.Public,I s.At,I 345686400]) rfl rfl rfl rfl rfl rfl))) ?_
     refine ge_litT hΓ (enc:=Kgu) [(⟨s.Public,s.At,345686400⟩:Kbm)] rfl rfl rfl rfl rfl rfl rfl rfl rfl rfl rfl rfl ?_
     obtain ⟨y40,hy40,h41⟩:=bi_ok h38
     refine ge_h [mOb kS false (eH (some 0)) v_h.keys,mOb kS false (eH (some 0)) v_h.nodes,mOb kS false eB v_h.ever,mOb kS false (eV 107 3) v_h.History,.box 220 [.d (Sl eS v_h.d.Users),.d (Sl Kgj v_h.d.Owners),I v_h.d.Life,B v_h.d.Approve,.map 0,.map 1,.map 2,.map 3],.bag y40.2.1 (arX q23.2.1 y40.2.2 q23.2.2.2.1 q23.2.2.2.2.1 q23.2.2.2.2.2) [],.box 37 (fS s)] rfl rfl rfl (st_st ⟨rfl,rfl,trivial⟩) (qte_s (ops_appV hΓ (enc:=Kgu) (bg:=5) (fun l=>arX q23.2.1 l q23.2.2.2.1 q23.2.2.2.2.1 q23.2.2.2.2.2) hy40 (arA_r _ (arA_l _ arA_here)) rfl rfl rfl rfl rfl rfl rfl rfl (fun _=>rfl) rfl rfl)) ?_
     refine ge_h0 [mOb kS false (eH (some 0)) v_h.keys,mOb kS false (eH (some 0)) v_h.nodes,mOb kS false eB v_h.ever,mOb kS false (eV 107 3) (mSet v_h.History s.Node y40.1),.box 220 [.d (Sl eS v_h.d.Users),.d (Sl Kgj v_h.d.Owners),I v_h.d.Life,B v_h.d.Approve,.map 0,.map 1,.map 2,.map 3],.bag y40.2.1 (arX q23.2.1 y40.2.2 q23.2.2.2.1 q23.2.2.2.2.1 q23.2.2.2.2.2) [],.box 37 (fS s)] rfl rfl (st_st ⟨rfl,rfl,trivial⟩) (qte_u (opu_mapUpdate hΓ (kv:=kS) (agg:=false) (enc:=(eV 107 3)) (id:=3) v_h.History s.Node y40.1 rfl rfl rfl key_str rfl rfl rfl rfl rfl)) ?_
     refine ge_fin ?_
     refine go hΓ 1 rfl ?_
     obtain rfl:=oSi h41
     exact ⟨_,rfl,⟨trivial,[],rfl,.inl rfl⟩⟩
  ·have h42:=cF hq1 hb
   refine go hΓ 6 rfl ?_
   refine j_cond rfl (fun hb=>?_) (fun hb=>?_)
   ·have h43:=cT h42 hb
    refine go hΓ 2 rfl ?_
    refine j_draw hmix (by kernel_rfl) ?_
    obtain ⟨hg45,h44⟩:=gd_ok h43
    refine go hΓ 1 rfl ?_
    refine gl_o rfl (op_nilCheckH hg45 rfl) ?_
    refine gl_o rfl (op_fieldAddrH hΓ hg45 rfl rfl rfl rfl rfl rfl) ?_
    obtain ⟨m46,hm46,h47⟩:=bi_ok h44
    refine gl_o rfl (op_loadH hΓ (enc:=Kgo) (bg:=5) m46 rfl rfl (ArU.r _ (ArU.r _ (ArU.l _ (arU_here (fun _ _=>rfl) hm46 m46)))) rfl (g:=S m46.Name) rfl rfl) ?_
    refine go_draw hΓ 5 rfl ?_
    refine j_cond rfl (fun hb=>?_) (fun hb=>?_)
    ·have h48:=cT h47 hb
     refine go hΓ 8 rfl ?_
     obtain ⟨v49,hv49,h50⟩:=bi_ok h48
     obtain rfl:=oSi h50
     obtain rfl:=oSi h2
     refine go hΓ 2 rfl ?_
     refine cv_here ?_
     obtain rfl:=oSi hv49
     exact fin_objs hΓ [_] (.inr rfl) rfl rfl rfl rfl (.inr ⟨HB.mk rfl,rfl⟩)
    ·have h51:=cF h47 hb
     obtain ⟨hg53,h52⟩:=gd_ok h51
     refine go hΓ 6 rfl ?_
     refine eo_o rfl (op_nilCheckH hg53 rfl) ?_
     refine eo_o rfl (op_fieldAddrH hΓ hg53 rfl rfl rfl rfl rfl rfl) ?_
     obtain ⟨m54,hm54,h55⟩:=bi_ok h52
     refine eo_u (nBe rfl) (opu_storeH hΓ (enc:=Kgo) (bg:=5) m54 (⟨m54.Node,m54.User,s.Name,m54.Public,m54.Tags,m54.Joined,m54.Expires,m54.Approved⟩:Kbe) rfl rfl (ArU.r _ (ArU.r _ (ArU.l _ (arU_here (fun _ _=>rfl) hm54 (⟨m54.Node,m54.User,s.Name,m54.Public,m54.Tags,m54.Joined,m54.Expires,m54.Approved⟩:Kbe))))) rfl rfl (by intro e; cases e) rfl rfl rfl rfl rfl rfl rfl) ?_
     refine eo_hp [mOb kS false (eH (some 0)) v_h.keys,mOb kS false (eH (some 0)) v_h.nodes,mOb kS false eB v_h.ever,mOb kS false (eV 107 3) v_h.History,.box 220 [.d (Sl eS v_h.d.Users),.d (Sl Kgj v_h.d.Owners),I v_h.d.Life,B v_h.d.Approve,.map 0,.map 1,.map 2,.map 3],.bag al.1 (arX al.2.1 al.2.2.1 (hSet al.2.2.2.1 m (⟨m54.Node,m54.User,s.Name,m54.Public,m54.Tags,m54.Joined,m54.Expires,m54.Approved⟩:Kbe)) al.2.2.2.2.1 al.2.2.2.2.2) [],.box 37 (fS s)] rfl ?_
     refine go_ops hΓ 2 rfl ?_
     obtain rfl:=oSi h55
     exact ⟨_,rfl,⟨trivial,[],rfl,.inl rfl⟩⟩
   ·have h56:=cF h42 hb
    refine go hΓ 6 rfl ?_
    refine j_cond rfl (fun hb=>?_) (fun hb=>?_)
    ·have h57:=cT h56 hb
     refine go hΓ 9 rfl ?_
     refine j_cond rfl (fun hb=>?_) (fun hb=>?_)
     ·have h58:=cT h57 hb
      refine go hΓ 8 rfl ?_
      obtain ⟨v59,hv59,h60⟩:=bi_ok h58
      obtain rfl:=oSi h60
      obtain rfl:=oSi h2
      refine go hΓ 2 rfl ?_
      refine cv_here ?_
      obtain rfl:=oSi hv59
      exact fin_objs hΓ [_] (.inr rfl) rfl rfl rfl rfl (.inr ⟨HB.mk rfl,rfl⟩)
     ·have h61:=cF h57 hb
      refine go hΓ 4 rfl ?_
      refine j_draw hmix (by kernel_rfl) ?_
      obtain ⟨y62,hy62,h63⟩:=bi_ok h61
      refine go hΓ 8 rfl ?_
      refine gl_callP (callable Tryz.func278 rfl rfl) (Kkg hy62) rfl rfl rfl rfl rfl rfl ?_
      refine go_draw hΓ 9 rfl ?_
      refine j_cond rfl (fun hb=>?_) (fun hb=>?_)
      ·have h64:=cT h63 hb
       refine go hΓ 9 rfl ?_
       obtain ⟨v65,hv65,h66⟩:=bi_ok h64
       obtain rfl:=oSi h66
       obtain rfl:=oSi h2
       refine go hΓ 2 rfl ?_
       refine cv_here ?_
       obtain rfl:=oSi hv65
       exact fin_objs hΓ [_] (.inr rfl) rfl rfl rfl rfl (.inr ⟨HB.mk rfl,rfl⟩)
      ·have h67:=cF h63 hb
       obtain ⟨y68,hy68,h69⟩:=bi_ok h67
       refine go hΓ 8 rfl ?_
       refine eo_callP (callable Tryz.func213 rfl rfl) (Pure.rows (Kjf hy68) rfl rfl) rfl (nBe rfl) rfl rfl rfl rfl rfl ?_
       obtain ⟨hg71,h70⟩:=gd_ok h69
       refine eo_o rfl (op_nilCheckH hg71 rfl) ?_
       refine eo_o rfl (op_fieldAddrH hΓ hg71 rfl rfl rfl rfl rfl rfl) ?_
       obtain ⟨m72,hm72,h73⟩:=bi_ok h70
       refine eo_u (nBe rfl) (opu_storeH hΓ (enc:=Kgo) (bg:=5) m72 (⟨m72.Node,[],m72.Name,m72.Public,m72.Tags,m72.Joined,m72.Expires,m72.Approved⟩:Kbe) rfl rfl (ArU.r _ (ArU.r _ (ArU.l _ (arU_here (fun _ _=>rfl) hm72 (⟨m72.Node,[],m72.Name,m72.Public,m72.Tags,m72.Joined,m72.Expires,m72.Approved⟩:Kbe))))) rfl rfl (by intro e; cases e) rfl rfl rfl rfl rfl rfl rfl) ?_
       refine eo_hp [mOb kS false (eH (some 0)) v_h.keys,mOb kS false (eH (some 0)) v_h.nodes,mOb kS false eB v_h.ever,mOb kS false (eV 107 3) v_h.History,.box 220 [.d (Sl eS v_h.d.Users),.d (Sl Kgj v_h.d.Owners),I v_h.d.Life,B v_h.d.Approve,.map 0,.map 1,.map 2,.map 3],.bag al.1 (arX al.2.1 al.2.2.1 (hSet al.2.2.2.1 m (⟨m72.Node,[],m72.Name,m72.Public,m72.Tags,m72.Joined,m72.Expires,m72.Approved⟩:Kbe)) al.2.2.2.2.1 al.2.2.2.2.2) [],.box 37 (fS s)] rfl ?_
       obtain ⟨hg75,h74⟩:=gd_ok h73
       refine eo_o rfl (op_nilCheckH hg75 rfl) ?_
       refine eo_o rfl (op_fieldAddrH hΓ hg75 rfl rfl rfl rfl rfl rfl) ?_
       obtain ⟨m76,hm76,h77⟩:=bi_ok h74
       refine eo_u (nBe rfl) (opu_storeH hΓ (enc:=Kgo) (bg:=5) m76 (⟨m76.Node,m76.User,m76.Name,m76.Public,y68,m76.Joined,m76.Expires,m76.Approved⟩:Kbe) rfl rfl (ArU.r _ (ArU.r _ (ArU.l _ (arU_here (fun _ _=>rfl) hm76 (⟨m76.Node,m76.User,m76.Name,m76.Public,y68,m76.Joined,m76.Expires,m76.Approved⟩:Kbe))))) rfl rfl (by intro e; cases e) rfl rfl rfl rfl rfl rfl rfl) ?_
       refine eo_hp [mOb kS false (eH (some 0)) v_h.keys,mOb kS false (eH (some 0)) v_h.nodes,mOb kS false eB v_h.ever,mOb kS false (eV 107 3) v_h.History,.box 220 [.d (Sl eS v_h.d.Users),.d (Sl Kgj v_h.d.Owners),I v_h.d.Life,B v_h.d.Approve,.map 0,.map 1,.map 2,.map 3],.bag al.1 (arX al.2.1 al.2.2.1 (hSet (hSet al.2.2.2.1 m (⟨m72.Node,[],m72.Name,m72.Public,m72.Tags,m72.Joined,m72.Expires,m72.Approved⟩:Kbe)) m (⟨m76.Node,m76.User,m76.Name,m76.Public,y68,m76.Joined,m76.Expires,m76.Approved⟩:Kbe)) al.2.2.2.2.1 al.2.2.2.2.2) [],.box 37 (fS s)] rfl ?_
       obtain ⟨hg79,h78⟩:=gd_ok h77
       refine eo_o rfl (op_nilCheckH hg79 rfl) ?_
       refine eo_o rfl (op_fieldAddrH hΓ hg79 rfl rfl rfl rfl rfl rfl) ?_
       obtain ⟨m80,hm80,h81⟩:=bi_ok h78
       refine eo_u (nBe rfl) (opu_storeH hΓ (enc:=Kgo) (bg:=5) m80 (⟨m80.Node,m80.User,m80.Name,m80.Public,m80.Tags,m80.Joined,345686400,m80.Approved⟩:Kbe) rfl rfl (ArU.r _ (ArU.r _ (ArU.l _ (arU_here (fun _ _=>rfl) hm80 (⟨m80.Node,m80.User,m80.Name,m80.Public,m80.Tags,m80.Joined,345686400,m80.Approved⟩:Kbe))))) rfl rfl (by intro e; cases e) rfl rfl rfl rfl rfl rfl rfl) ?_
       refine eo_hp [mOb kS false (eH (some 0)) v_h.keys,mOb kS false (eH (some 0)) v_h.nodes,mOb kS false eB v_h.ever,mOb kS false (eV 107 3) v_h.History,.box 220 [.d (Sl eS v_h.d.Users),.d (Sl Kgj v_h.d.Owners),I v_h.d.Life,B v_h.d.Approve,.map 0,.map 1,.map 2,.map 3],.bag al.1 (arX al.2.1 al.2.2.1 (hSet (hSet (hSet al.2.2.2.1 m (⟨m72.Node,[],m72.Name,m72.Public,m72.Tags,m72.Joined,m72.Expires,m72.Approved⟩:Kbe)) m (⟨m76.Node,m76.User,m76.Name,m76.Public,y68,m76.Joined,m76.Expires,m76.Approved⟩:Kbe)) m (⟨m80.Node,m80.User,m80.Name,m80.Public,m80.Tags,m80.Joined,345686400,m80.Approved⟩:Kbe)) al.2.2.2.2.1 al.2.2.2.2.2) [],.box 37 (fS s)] rfl ?_
       refine go_ops hΓ 2 rfl ?_
       obtain rfl:=oSi h81
       exact ⟨_,rfl,⟨trivial,[],rfl,.inl rfl⟩⟩
    ·have h82:=cF h56 hb
     refine go hΓ 6 rfl ?_
     refine j_cond rfl (fun hb=>?_) (fun hb=>?_)
     ·have h83:=cT h82 hb
      refine go hΓ 2 rfl ?_
      refine j_draw hmix (by kernel_rfl) ?_
      obtain ⟨hg85,h84⟩:=gd_ok h83
      refine go hΓ 1 rfl ?_
      refine gl_o rfl (op_nilCheckH hg85 rfl) ?_
      refine gl_o rfl (op_fieldAddrH hΓ hg85 rfl rfl rfl rfl rfl rfl) ?_
      obtain ⟨m86,hm86,h87⟩:=bi_ok h84
      refine gl_o rfl (op_loadH hΓ (enc:=Kgo) (bg:=5) m86 rfl rfl (ArU.r _ (ArU.r _ (ArU.l _ (arU_here (fun _ _=>rfl) hm86 m86)))) rfl (g:=I m86.Expires) rfl rfl) ?_
      refine go_draw hΓ 5 rfl ?_
      refine j_cond rfl (fun hb=>?_) (fun hb=>?_)
      ·have h88:=cT h87 hb
       refine go hΓ 8 rfl ?_
       obtain ⟨v89,hv89,h90⟩:=bi_ok h88
       obtain rfl:=oSi h90
       obtain rfl:=oSi h2
       refine go hΓ 2 rfl ?_
       refine cv_here ?_
       obtain rfl:=oSi hv89
       exact fin_objs hΓ [_] (.inr rfl) rfl rfl rfl rfl (.inr ⟨HB.mk rfl,rfl⟩)
      ·have h91:=cF h87 hb
       obtain ⟨hg93,h92⟩:=gd_ok h91
       refine go hΓ 6 rfl ?_
       refine eo_o rfl (op_nilCheckH hg93 rfl) ?_
       refine eo_o rfl (op_fieldAddrH hΓ hg93 rfl rfl rfl rfl rfl rfl) ?_
       obtain ⟨m94,hm94,h95⟩:=bi_ok h92
       refine eo_u (nBe rfl) (opu_storeH hΓ (enc:=Kgo) (bg:=5) m94 (⟨m94.Node,m94.User,m94.Name,m94.Public,m94.Tags,m94.Joined,s.At,m94.Approved⟩:Kbe) rfl rfl (ArU.r _ (ArU.r _ (ArU.l _ (arU_here (fun _ _=>rfl) hm94 (⟨m94.Node,m94.User,m94.Name,m94.Public,m94.Tags,m94.Joined,s.At,m94.Approved⟩:Kbe))))) rfl rfl (by intro e; cases e) rfl rfl rfl rfl rfl rfl rfl) ?_
       refine eo_hp [mOb kS false (eH (some 0)) v_h.keys,mOb kS false (eH (some 0)) v_h.nodes,mOb kS false eB v_h.ever,mOb kS false (eV 107 3) v_h.History,.box 220 [.d (Sl eS v_h.d.Users),.d (Sl Kgj v_h.d.Owners),I v_h.d.Life,B v_h.d.Approve,.map 0,.map 1,.map 2,.map 3],.bag al.1 (arX al.2.1 al.2.2.1 (hSet al.2.2.2.1 m (⟨m94.Node,m94.User,m94.Name,m94.Public,m94.Tags,m94.Joined,s.At,m94.Approved⟩:Kbe)) al.2.2.2.2.1 al.2.2.2.2.2) [],.box 37 (fS s)] rfl ?_
       refine go_ops hΓ 2 rfl ?_
       obtain rfl:=oSi h95
       exact ⟨_,rfl,⟨trivial,[],rfl,.inl rfl⟩⟩
     ·have h96:=cF h82 hb
      refine go hΓ 1 rfl ?_
      refine j_drawE [.dead,.dead,.dead,.dead,.box 220 [.d (Sl eS v_h.d.Users),.d (Sl Kgj v_h.d.Owners),I v_h.d.Life,B v_h.d.Approve,.map 0,.map 1,.map 2,.map 3],.dead,.box 37 (fS s)] [3,5] [6] [] hmix (by kernel_rfl) (by kernel_rfl) ⟨rfl,rfl,trivial⟩ (nBe rfl) ?_
      refine go_E hΓ 6 rfl ?_
      refine ge_h0 [mOb kS false (eH (some 0)) v_h.keys,mOb kS false (eH (some 0)) (mDel v_h.nodes s.Node),mOb kS false eB v_h.ever,mOb kS false (eV 107 3) v_h.History,.box 220 [.d (Sl eS v_h.d.Users),.d (Sl Kgj v_h.d.Owners),I v_h.d.Life,B v_h.d.Approve,.map 0,.map 1,.map 2,.map 3],bg al,.box 37 (fS s)] rfl rfl (st_st ⟨rfl,rfl,trivial⟩) (qte_s (ops_delete hΓ (kv:=kS) (agg:=false) (enc:=(eH (some 0))) (id:=1) v_h.nodes s.Node rfl rfl rfl key_str rfl rfl rfl rfl)) ?_
      refine ge_fin ?_
      refine go hΓ 4 rfl ?_
      refine eo_o rfl (op_lenV hΓ rfl rfl rfl) ?_
      obtain ⟨hg98,h97⟩:=gd_ok h96
      obtain ⟨hg100,h99⟩:=gd_ok h97
      refine go_ops hΓ 3 rfl ?_
      refine eo_o rfl (op_elemV hΓ hg100 rfl rfl rfl rfl rfl rfl) ?_
      refine eo_o rfl (op_fieldAddrH hΓ hg98 rfl rfl rfl rfl rfl rfl) ?_
      obtain ⟨m101,hm101,h102⟩:=bi_ok h99
      obtain ⟨x103,hx103,h104⟩:=bi_ok h102
      have hj105:=getZ_at hx103
      refine eo_u (nBe rfl) (opu_storeV hΓ (enc:=Kgu) (bg:=5) (z':=(⟨x103.Public,x103.From,s.At⟩:Kbm)) (wi (((((mGet v_h.History s.Node).getD (0,0)).2:Nat):Int) - 1)).toNat 2 hj105 rfl rfl rfl (ArU.r _ (ArU.l _ (arU_here (fun _ _=>rfl) hm101 (m101.set (wi (((((mGet v_h.History s.Node).getD (0,0)).2:Nat):Int) - 1)).toNat (⟨x103.Public,x103.From,s.At⟩:Kbm))))) rfl (fun _=>rfl) rfl rfl rfl rfl rfl rfl rfl) ?_
      refine eo_hp [mOb kS false (eH (some 0)) v_h.keys,mOb kS false (eH (some 0)) (mDel v_h.nodes s.Node),mOb kS false eB v_h.ever,mOb kS false (eV 107 3) v_h.History,.box 220 [.d (Sl eS v_h.d.Users),.d (Sl Kgj v_h.d.Owners),I v_h.d.Life,B v_h.d.Approve,.map 0,.map 1,.map 2,.map 3],.bag al.1 (arX al.2.1 (hSet al.2.2.1 (((mGet v_h.History s.Node).getD (0,0)).1) (m101.set (wi (((((mGet v_h.History s.Node).getD (0,0)).2:Nat):Int) - 1)).toNat (⟨x103.Public,x103.From,s.At⟩:Kbm))) al.2.2.2.1 al.2.2.2.2.1 al.2.2.2.2.2) [],.box 37 (fS s)] rfl ?_
      refine go_ops hΓ 2 rfl ?_
      obtain rfl:=oSi h104
      exact ⟨_,rfl,⟨trivial,[],rfl,.inl rfl⟩⟩
 ·intro a3 ha
  subst ha
  replace h2:=orI_l h2
  refine go hΓ 7 rfl ?_
  refine cv_here ?_
  obtain rfl:=oSi h2
  exact fin_objs hΓ [_] (.inr rfl) rfl rfl rfl rfl (.inr ⟨HB.mk rfl,rfl⟩)
set_option maxHeartbeats 8000000 in
theorem Kfy {v_h:Kbk} {s:Kbb} {al:BagT} {r:Int×Kbk×BagT} (h:Kfh v_h s al=some r):EC Tryz.prog 98 [.ptr 4 0,.agg (fS s)] [mOb kS false (eH (some 0)) v_h.keys,mOb kS false (eH (some 0)) v_h.nodes,mOb kS false eB v_h.ever,mOb kS false (eV 107 3) v_h.History,.box 220 [.d (Sl eS v_h.d.Users),.d (Sl Kgj v_h.d.Owners),I v_h.d.Life,B v_h.d.Approve,.map 0,.map 1,.map 2,.map 3],bg al] fun g hp'=>g=I r.1∧hp'=[mOb kS false (eH (some 0)) r.2.1.keys,mOb kS false (eH (some 0)) r.2.1.nodes,mOb kS false eB r.2.1.ever,mOb kS false (eV 107 3) r.2.1.History,.box 220 [.d (Sl eS r.2.1.d.Users),.d (Sl Kgj r.2.1.d.Owners),I r.2.1.d.Life,B r.2.1.d.Approve,.map 0,.map 1,.map 2,.map 3],bg r.2.2]:=by
 refine ec_enterC (Fr.of 0 _) Tryz.func98 rfl (Fr.of_ok _) (nBe rfl) fun _=>?_
 refine go_in ?_
 unfold Kfh at h
 refine go hΓ 2 rfl ?_
 refine eo_box rfl rfl rfl rfl (nBe rfl) ?_
 obtain ⟨q1,hq1,h2⟩:=bi_ok h
 refine go_ops hΓ 18 rfl ?_
 refine j_cutNZ [(0,.ptr 4 0),(3,.ptr 6 0),(7,I s.Kind),(8,B q1)] [mOb kS false (eH (some 0)) v_h.keys,mOb kS false (eH (some 0)) v_h.nodes,mOb kS false eB v_h.ever,mOb kS false (eV 107 3) v_h.History,.box 220 [.d (Sl eS v_h.d.Users),.d (Sl Kgj v_h.d.Owners),I v_h.d.Life,B v_h.d.Approve,.map 0,.map 1,.map 2,.map 3],bg al,.box 37 (fS s)] ?_ ?_
 ·refine j_cond rfl (fun hb=>?_) (fun hb=>?_)
  ·have h3:=cT hq1 hb
   refine go hΓ 1 rfl ?_
   obtain rfl:=oSi h3
   exact ⟨⟨rfl,rfl,rfl,rfl,trivial⟩,[],rfl,.inl rfl⟩
  ·have h4:=cF hq1 hb
   refine go hΓ 4 rfl ?_
   obtain rfl:=oSi h4
   exact ⟨⟨rfl,rfl,rfl,rfl,trivial⟩,[],rfl,.inl rfl⟩
 ·refine go hΓ 1 rfl ?_
  refine j_cond rfl (fun hb=>?_) (fun hb=>?_)
  ·have h5:=cT h2 hb
   obtain ⟨y6,hy6,h7⟩:=bi_ok h5
   refine go hΓ 4 rfl ?_
   refine eo_callF [0,1,2,3,4,5] (I y6.1) [mOb kS false (eH (some 0)) y6.2.1.keys,mOb kS false (eH (some 0)) y6.2.1.nodes,mOb kS false eB y6.2.1.ever,mOb kS false (eV 107 3) y6.2.1.History,.box 220 [.d (Sl eS y6.2.1.d.Users),.d (Sl Kgj y6.2.1.d.Owners),I y6.2.1.d.Life,B y6.2.1.d.Approve,.map 0,.map 1,.map 2,.map 3],bg y6.2.2,.box 37 (fS s)] (callable Tryz.func202 rfl rfl) (Kkh hy6) rfl (nBe rfl) rfl rfl rfl rfl rfl rfl rfl rfl rfl rfl ?_
   refine go_ops hΓ 6 rfl ?_
   refine cv_here ?_
   obtain rfl:=oSi h7
   exact fin_objs hΓ [_] (.inr rfl) rfl rfl rfl rfl (.inr ⟨HB.mk rfl,rfl⟩)
  ·have h8:=cF h2 hb
   refine go hΓ 6 rfl ?_
   refine j_cond rfl (fun hb=>?_) (fun hb=>?_)
   ·have h9:=cT h8 hb
    obtain ⟨y10,hy10,h11⟩:=bi_ok h9
    refine go hΓ 4 rfl ?_
    refine eo_callF [0,1,2,3,4,5] (I y10.1) [mOb kS false (eH (some 0)) y10.2.1.keys,mOb kS false (eH (some 0)) y10.2.1.nodes,mOb kS false eB y10.2.1.ever,mOb kS false (eV 107 3) y10.2.1.History,.box 220 [.d (Sl eS y10.2.1.d.Users),.d (Sl Kgj y10.2.1.d.Owners),I y10.2.1.d.Life,B y10.2.1.d.Approve,.map 0,.map 1,.map 2,.map 3],bg y10.2.2,.box 37 (fS s)] (callable Tryz.func203 rfl rfl) (Kfs hy10) rfl (nBe rfl) rfl rfl rfl rfl rfl rfl rfl rfl rfl rfl ?_
    refine go_ops hΓ 6 rfl ?_
    refine cv_here ?_
    obtain rfl:=oSi h11
    exact fin_objs hΓ [_] (.inr rfl) rfl rfl rfl rfl (.inr ⟨HB.mk rfl,rfl⟩)
   ·have h12:=cF h8 hb
    refine go hΓ 5 rfl ?_
    refine j_draw hmix (by kernel_rfl) ?_
    obtain ⟨y13,hy13,h14⟩:=bi_ok h12
    refine go hΓ 7 rfl ?_
    refine gl_callP (callable Tryz.func61 rfl rfl) (Kht hy13) rfl rfl rfl rfl rfl rfl ?_
    refine go_draw hΓ 3 rfl ?_
    refine j_cond rfl (fun hb=>?_) (fun hb=>?_)
    ·have h15:=cT h14 hb
     refine go hΓ 7 rfl ?_
     refine cv_here ?_
     obtain rfl:=oSi h15
     exact fin_objs hΓ [_] (.inr rfl) rfl rfl rfl rfl (.inr ⟨HB.mk rfl,rfl⟩)
    ·have h16:=cF h14 hb
     refine go hΓ 3 rfl ?_
     refine j_draw hmix (by kernel_rfl) ?_
     refine go hΓ 6 rfl ?_
     refine gl_o rfl (op_lookupG hΓ (kv:=kS) (agg:=false) (enc:=(eH (some 0))) v_h.nodes s.Node (0:Nat) rfl rfl rfl rfl key_str rfl rfl rfl (zdv_hd rfl) rfl) ?_
     refine go_draw hΓ 7 rfl ?_
     refine eo_o rfl ((op_isNilP hΓ rfl rfl rfl rfl).1) ?_
     refine go_ops hΓ 2 rfl ?_
     refine j_cond rfl (fun hb=>?_) (fun hb=>?_)
     ·have h17:=cT h16 hb
      refine go hΓ 7 rfl ?_
      refine cv_here ?_
      obtain rfl:=oSi h17
      exact fin_objs hΓ [_] (.inr rfl) rfl rfl rfl rfl (.inr ⟨HB.mk rfl,rfl⟩)
     ·have h18:=cF h16 hb
      refine go hΓ 10 rfl ?_
      refine j_cond rfl (fun hb=>?_) (fun hb=>?_)
      ·have h19:=cT h18 hb
       obtain ⟨hg21,h20⟩:=gd_ok h19
       refine go hΓ 4 rfl ?_
       refine eo_o rfl (op_nilCheckH hg21 rfl) ?_
       refine eo_o rfl (op_fieldAddrH hΓ hg21 rfl rfl rfl rfl rfl rfl) ?_
       obtain ⟨m22,hm22,h23⟩:=bi_ok h20
       refine eo_o rfl (op_loadH hΓ (enc:=Kgo) (bg:=5) m22 rfl rfl (ArU.r _ (ArU.r _ (ArU.l _ (arU_here (fun _ _=>rfl) hm22 m22)))) rfl (g:=B m22.Approved) rfl rfl) ?_
       refine go_ops hΓ 2 rfl ?_
       refine j_cond rfl (fun hb=>?_) (fun hb=>?_)
       ·have h24:=cT h23 hb
        refine go hΓ 8 rfl ?_
        refine cv_here ?_
        obtain rfl:=oSi h24
        exact fin_objs hΓ [_] (.inr rfl) rfl rfl rfl rfl (.inr ⟨HB.mk rfl,rfl⟩)
       ·have h25:=cF h23 hb
        obtain ⟨hg27,h26⟩:=gd_ok h25
        refine go hΓ 5 rfl ?_
        refine eo_o rfl (op_nilCheckH hg27 rfl) ?_
        refine eo_o rfl (op_fieldAddrH hΓ hg27 rfl rfl rfl rfl rfl rfl) ?_
        obtain ⟨m28,hm28,h29⟩:=bi_ok h26
        refine eo_u (nBe rfl) (opu_storeH hΓ (enc:=Kgo) (bg:=5) m28 (⟨m28.Node,m28.User,m28.Name,m28.Public,m28.Tags,m28.Joined,m28.Expires,true⟩:Kbe) rfl rfl (ArU.r _ (ArU.r _ (ArU.l _ (arU_here (fun _ _=>rfl) hm28 (⟨m28.Node,m28.User,m28.Name,m28.Public,m28.Tags,m28.Joined,m28.Expires,true⟩:Kbe))))) rfl rfl (by intro e; cases e) rfl rfl rfl rfl rfl rfl rfl) ?_
        refine eo_hp [mOb kS false (eH (some 0)) v_h.keys,mOb kS false (eH (some 0)) v_h.nodes,mOb kS false eB v_h.ever,mOb kS false (eV 107 3) v_h.History,.box 220 [.d (Sl eS v_h.d.Users),.d (Sl Kgj v_h.d.Owners),I v_h.d.Life,B v_h.d.Approve,.map 0,.map 1,.map 2,.map 3],.bag al.1 (arX al.2.1 al.2.2.1 (hSet al.2.2.2.1 ((mGet v_h.nodes s.Node).getD 0) (⟨m28.Node,m28.User,m28.Name,m28.Public,m28.Tags,m28.Joined,m28.Expires,true⟩:Kbe)) al.2.2.2.2.1 al.2.2.2.2.2) [],.box 37 (fS s)] rfl ?_
        refine go_ops hΓ 9 rfl ?_
        refine cv_here ?_
        obtain rfl:=oSi h29
        exact fin_objs hΓ [_] (.inr rfl) rfl rfl rfl rfl (.inr ⟨HB.mk rfl,rfl⟩)
      ·have h30:=cF h18 hb
       refine go hΓ 4 rfl ?_
       refine j_draw hmix (by kernel_rfl) ?_
       obtain ⟨hg32,h31⟩:=gd_ok h30
       refine go hΓ 7 rfl ?_
       refine gl_o rfl (op_nilCheckH hg32 rfl) ?_
       obtain ⟨m33,hm33,h34⟩:=bi_ok h31
       refine gl_o rfl (op_loadH hΓ (enc:=Kgo) (bg:=5) m33 rfl rfl (ArU.r _ (ArU.r _ (ArU.l _ (arU_here (fun _ _=>rfl) hm33 m33)))) rfl (g:=.agg [S m33.Node,S m33.User,S m33.Name,S m33.Public,.d (Sl eS m33.Tags),I m33.Joined,I m33.Expires,B m33.Approved]) rfl rfl) ?_
       obtain ⟨y35,hy35,h36⟩:=bi_ok h34
       refine gl_callP (callable Tryz.func160 rfl rfl) (Kfw hy35) rfl rfl rfl rfl rfl rfl ?_
       refine go_draw hΓ 3 rfl ?_
       refine j_cond rfl (fun hb=>?_) (fun hb=>?_)
       ·have h37:=cT h36 hb
        refine go hΓ 7 rfl ?_
        refine cv_here ?_
        obtain rfl:=oSi h37
        exact fin_objs hΓ [_] (.inr rfl) rfl rfl rfl rfl (.inr ⟨HB.mk rfl,rfl⟩)
       ·have h38:=cF h36 hb
        obtain ⟨y39,hy39,h40⟩:=bi_ok h38
        refine go hΓ 7 rfl ?_
        refine eo_callF [0,1,2,3,4,5] (I y39.1) [mOb kS false (eH (some 0)) y39.2.1.keys,mOb kS false (eH (some 0)) y39.2.1.nodes,mOb kS false eB y39.2.1.ever,mOb kS false (eV 107 3) y39.2.1.History,.box 220 [.d (Sl eS y39.2.1.d.Users),.d (Sl Kgj y39.2.1.d.Owners),I y39.2.1.d.Life,B y39.2.1.d.Approve,.map 0,.map 1,.map 2,.map 3],bg y39.2.2,.box 37 (fS s)] (callable Tryz.func204 rfl rfl) (Kfx hy39) rfl (nBe rfl) rfl rfl rfl rfl rfl rfl rfl rfl rfl rfl ?_
        refine go_ops hΓ 4 rfl ?_
        refine cv_here ?_
        obtain rfl:=oSi h40
        exact fin_objs hΓ [_] (.inr rfl) rfl rfl rfl rfl (.inr ⟨HB.mk rfl,rfl⟩)
set_option maxHeartbeats 8000000 in
theorem Kfz {d:Kba} {l:List Kbb} {v_at:Int} {al:BagT} {r:Kbk×(List Kbh)×BagT} (h:Kfi d l v_at al=some r):EC Tryz.prog 94 [.agg (fD d),.d (Sl Kgl l),I v_at] [bg al] fun g hp'=>g=.tup [.ptr 5 0,.sl 6 r.2.1.length]∧hp'=[bg r.2.2,mOb kS false (eH (some 0)) r.1.keys,mOb kS false (eH (some 0)) r.1.nodes,mOb kS false eB r.1.ever,mOb kS false (eV 107 3) r.1.History,.box 220 [.d (Sl eS r.1.d.Users),.d (Sl Kgj r.1.d.Owners),I r.1.d.Life,B r.1.d.Approve,.map 1,.map 2,.map 3,.map 4],rO 48 2 Kgq r.2.1]:=by
 refine ec_enterC (Fr.of 0 _) Tryz.func94 rfl (Fr.of_ok _) (nBe rfl) fun _=>?_
 refine go_in ?_
 unfold Kfi at h
 refine go hΓ 2 rfl ?_
 refine eo_box rfl rfl rfl rfl (nBe rfl) ?_
 obtain ⟨y1,hy1,h2⟩:=bi_ok h
 refine go_ops hΓ 7 rfl ?_
 refine eo_callF [] (.ptr 6 0) [bg al,.box 29 (fD d),mOb kS false (eH (some 0)) y1.keys,mOb kS false (eH (some 0)) y1.nodes,mOb kS false eB y1.ever,mOb kS false (eV 107 3) y1.History,.box 220 [.d (Sl eS y1.d.Users),.d (Sl Kgj y1.d.Owners),I y1.d.Life,B y1.d.Approve,.map 2,.map 3,.map 4,.map 5]] (callable Tryz.func197 rfl rfl) (Kke hy1) rfl (nBe rfl) rfl rfl rfl rfl rfl rfl rfl rfl rfl rfl ?_
 refine go_ops hΓ 5 rfl ?_
 refine eo_nilOwn (t:=0) 48 2 rfl (nBe rfl) ?_
 refine go_ops hΓ 10 rfl ?_
 obtain ⟨q6,hq6,h7⟩:=bi_ok h2
 refine j_bound 15 rfl fun hb9=>?_
 obtain ⟨q10,hq10,h11⟩:=bi_ok h7
 refine j_cutNZ [(8,.ptr 6 0),(9,.sl 7 q10.2.2.2.2.2.2.2.2.2.length)] [bg q10.1,.box 29 (fD d),mOb kS false (eH (some 0)) q10.2.1,mOb kS false (eH (some 0)) q10.2.2.1,mOb kS false eB q10.2.2.2.1,mOb kS false (eV 107 3) q10.2.2.2.2.1,.box 220 [.d (Sl eS q10.2.2.2.2.2.1),.d (Sl Kgj q10.2.2.2.2.2.2.1),I q10.2.2.2.2.2.2.2.1,B q10.2.2.2.2.2.2.2.2.1,.map 2,.map 3,.map 4,.map 5],rO 48 2 Kgq q10.2.2.2.2.2.2.2.2.2] ?_ ?_
 ·refine go hΓ 1 rfl ?_
  refine j_range l hq6 (fun i3 s4=>[(2,I v_at),(8,.ptr 6 0),(9,.sl 7 s4.2.2.2.2.2.2.2.2.2.length),(15,.d (Sl Kgl l)),(16,I (l.length:Int)),(17,I (i3:Int))]) (fun s4=>[bg s4.1,.box 29 (fD d),mOb kS false (eH (some 0)) s4.2.1,mOb kS false (eH (some 0)) s4.2.2.1,mOb kS false eB s4.2.2.2.1,mOb kS false (eV 107 3) s4.2.2.2.2.1,.box 220 [.d (Sl eS s4.2.2.2.2.2.1),.d (Sl Kgj s4.2.2.2.2.2.2.1),I s4.2.2.2.2.2.2.2.1,B s4.2.2.2.2.2.2.2.2.1,.map 2,.map 3,.map 4,.map 5],rO 48 2 Kgq s4.2.2.2.2.2.2.2.2.2]) ⟨⟨rfl,rfl,rfl,rfl,rfl,rfl,trivial⟩,[],rfl,.inl rfl⟩ (fun i3 x5 s4 y15 hx12 hlt hy13 hout14=>?_) (fun s4 hgo=>?_)
  ·refine go hΓ 6 rfl ?_
   refine j_condT rfl (decide_eq_true (Int.ofNat_lt.2 hlt)) ?_
   refine go hΓ 7 rfl ?_
   refine eo_o rfl (op_elemZ hΓ (enc:=Kgl) (getZ_nat hx12) rfl rfl rfl rfl rfl (fun _=>rfl)) ?_
   refine go_ops hΓ 1 rfl ?_
   refine eo_alloc hΓ rfl rfl rfl (nBe rfl) ?_
   refine go_ops hΓ 1 rfl ?_
   refine eo_store hΓ rfl rfl rfl rfl rfl rfl rfl rfl (nBe rfl) ?_
   refine eo_hp [bg s4.1,.box 29 (fD d),mOb kS false (eH (some 0)) s4.2.1,mOb kS false (eH (some 0)) s4.2.2.1,mOb kS false eB s4.2.2.2.1,mOb kS false (eV 107 3) s4.2.2.2.2.1,.box 220 [.d (Sl eS s4.2.2.2.2.2.1),.d (Sl Kgj s4.2.2.2.2.2.2.1),I s4.2.2.2.2.2.2.2.1,B s4.2.2.2.2.2.2.2.2.1,.map 2,.map 3,.map 4,.map 5],rO 48 2 Kgq s4.2.2.2.2.2.2.2.2.2,.box 37 (fS x5)] rfl ?_
   refine go_ops hΓ 11 rfl ?_
   refine j_cond rfl (fun hb=>?_) (fun hb=>?_)
   ·have h16:=cT hy13 hb
    refine go hΓ 6 rfl ?_
    obtain rfl:=oSi h16
    obtain rfl:=hout14 _ rfl
    obtain rfl:=oSi hq10
    exact ⟨⟨rfl,rfl,trivial⟩,[_],rfl,.inr ⟨HB.mk rfl,FB.mk rfl,(nBe rfl)⟩⟩
   ·have h17:=cF hy13 hb
    obtain ⟨y18,hy18,h19⟩:=bi_ok h17
    refine go hΓ 6 rfl ?_
    refine eo_callF [2,3,4,5,6,0] (I y18.1) [bg y18.2.2,.box 29 (fD d),mOb kS false (eH (some 0)) y18.2.1.keys,mOb kS false (eH (some 0)) y18.2.1.nodes,mOb kS false eB y18.2.1.ever,mOb kS false (eV 107 3) y18.2.1.History,.box 220 [.d (Sl eS y18.2.1.d.Users),.d (Sl Kgj y18.2.1.d.Owners),I y18.2.1.d.Life,B y18.2.1.d.Approve,.map 2,.map 3,.map 4,.map 5],rO 48 2 Kgq s4.2.2.2.2.2.2.2.2.2,.box 37 (fS x5)] (callable Tryz.func98 rfl rfl) (Kfy hy18) rfl (nBe rfl) rfl rfl rfl rfl rfl rfl rfl rfl rfl rfl ?_
    refine go_ops hΓ 9 rfl ?_
    refine j_cond rfl (fun hb=>?_) (fun hb=>?_)
    ·have h20:=cT h19 hb
     refine go hΓ 4 rfl ?_
     refine eo_build hΓ (gs:=[I (i3:Int),I y18.1]) rfl rfl rfl rfl rfl rfl rfl ?_
     refine eo_litT hΓ (enc:=Kgq) [(⟨(i3:Int),y18.1⟩:Kbh)] rfl rfl rfl rfl rfl rfl rfl rfl rfl rfl rfl rfl (nBe rfl) ?_
     obtain ⟨y21,hy21,h22⟩:=bi_ok h20
     refine eo_appendT hΓ (enc:=Kgq) hy21 rfl rfl rfl rfl rfl rfl rfl rfl rfl (fun _=>rfl) rfl rfl rfl rfl ?_
     refine go_ops hΓ 8 rfl ?_
     obtain rfl:=oSi h22
     exact ⟨_,rfl,⟨⟨rfl,rfl,rfl,rfl,rfl,get_eq rfl (w64_succ (Nat.lt_of_lt_of_le hlt hb9)),trivial⟩,[_],rfl,.inr ⟨HB.mk rfl,FB.mk rfl,(nBe rfl)⟩⟩⟩
    ·have h23:=cF h19 hb
     refine go hΓ 7 rfl ?_
     obtain rfl:=oSi h23
     exact ⟨_,rfl,⟨⟨rfl,rfl,rfl,rfl,rfl,get_eq rfl (w64_succ (Nat.lt_of_lt_of_le hlt hb9)),trivial⟩,[_],rfl,.inr ⟨HB.mk rfl,FB.mk rfl,(nBe rfl)⟩⟩⟩
  ·subst hgo
   refine go hΓ 6 rfl ?_
   refine j_condF rfl (decide_eq_false (Int.lt_irrefl _)) ?_
   refine go hΓ 4 rfl ?_
   obtain rfl:=oSi hq10
   exact ⟨⟨rfl,rfl,trivial⟩,[],rfl,.inl rfl⟩
 ·refine go hΓ 10 rfl ?_
  refine cv_kill 1 [bg q10.1,.dead,mOb kS false (eH (some 0)) q10.2.1,mOb kS false (eH (some 0)) q10.2.2.1,mOb kS false eB q10.2.2.2.1,mOb kS false (eV 107 3) q10.2.2.2.2.1,.box 220 [.d (Sl eS q10.2.2.2.2.2.1),.d (Sl Kgj q10.2.2.2.2.2.2.1),I q10.2.2.2.2.2.2.2.1,B q10.2.2.2.2.2.2.2.2.1,.map 2,.map 3,.map 4,.map 5],rO 48 2 Kgq q10.2.2.2.2.2.2.2.2.2] rfl (nBe rfl) ?_
  refine cv_move 2 1 [bg q10.1,mOb kS false (eH (some 0)) q10.2.1,.dead,mOb kS false (eH (some 0)) q10.2.2.1,mOb kS false eB q10.2.2.2.1,mOb kS false (eV 107 3) q10.2.2.2.2.1,.box 220 [.d (Sl eS q10.2.2.2.2.2.1),.d (Sl Kgj q10.2.2.2.2.2.2.1),I q10.2.2.2.2.2.2.2.1,B q10.2.2.2.2.2.2.2.2.1,.map 1,.map 3,.map 4,.map 5],rO 48 2 Kgq q10.2.2.2.2.2.2.2.2.2] rfl rfl rfl rfl rfl rfl ?_
  refine cv_move 3 2 [bg q10.1,mOb kS false (eH (some 0)) q10.2.1,mOb kS false (eH (some 0)) q10.2.2.1,.dead,mOb kS false eB q10.2.2.2.1,mOb kS false (eV 107 3) q10.2.2.2.2.1,.box 220 [.d (Sl eS q10.2.2.2.2.2.1),.d (Sl Kgj q10.2.2.2.2.2.2.1),I q10.2.2.2.2.2.2.2.1,B q10.2.2.2.2.2.2.2.2.1,.map 1,.map 2,.map 4,.map 5],rO 48 2 Kgq q10.2.2.2.2.2.2.2.2.2] rfl rfl rfl rfl rfl rfl ?_
  refine cv_move 4 3 [bg q10.1,mOb kS false (eH (some 0)) q10.2.1,mOb kS false (eH (some 0)) q10.2.2.1,mOb kS false eB q10.2.2.2.1,.dead,mOb kS false (eV 107 3) q10.2.2.2.2.1,.box 220 [.d (Sl eS q10.2.2.2.2.2.1),.d (Sl Kgj q10.2.2.2.2.2.2.1),I q10.2.2.2.2.2.2.2.1,B q10.2.2.2.2.2.2.2.2.1,.map 1,.map 2,.map 3,.map 5],rO 48 2 Kgq q10.2.2.2.2.2.2.2.2.2] rfl rfl rfl rfl rfl rfl ?_
  refine cv_move 5 4 [bg q10.1,mOb kS false (eH (some 0)) q10.2.1,mOb kS false (eH (some 0)) q10.2.2.1,mOb kS false eB q10.2.2.2.1,mOb kS false (eV 107 3) q10.2.2.2.2.1,.dead,.box 220 [.d (Sl eS q10.2.2.2.2.2.1),.d (Sl Kgj q10.2.2.2.2.2.2.1),I q10.2.2.2.2.2.2.2.1,B q10.2.2.2.2.2.2.2.2.1,.map 1,.map 2,.map 3,.map 4],rO 48 2 Kgq q10.2.2.2.2.2.2.2.2.2] rfl rfl rfl rfl rfl rfl ?_
  refine cv_move 6 5 [bg q10.1,mOb kS false (eH (some 0)) q10.2.1,mOb kS false (eH (some 0)) q10.2.2.1,mOb kS false eB q10.2.2.2.1,mOb kS false (eV 107 3) q10.2.2.2.2.1,.box 220 [.d (Sl eS q10.2.2.2.2.2.1),.d (Sl Kgj q10.2.2.2.2.2.2.1),I q10.2.2.2.2.2.2.2.1,B q10.2.2.2.2.2.2.2.2.1,.map 1,.map 2,.map 3,.map 4],.dead,rO 48 2 Kgq q10.2.2.2.2.2.2.2.2.2] rfl rfl rfl rfl rfl rfl ?_
  refine cv_move 7 6 [bg q10.1,mOb kS false (eH (some 0)) q10.2.1,mOb kS false (eH (some 0)) q10.2.2.1,mOb kS false eB q10.2.2.2.1,mOb kS false (eV 107 3) q10.2.2.2.2.1,.box 220 [.d (Sl eS q10.2.2.2.2.2.1),.d (Sl Kgj q10.2.2.2.2.2.2.1),I q10.2.2.2.2.2.2.2.1,B q10.2.2.2.2.2.2.2.2.1,.map 1,.map 2,.map 3,.map 4],rO 48 2 Kgq q10.2.2.2.2.2.2.2.2.2,.dead] rfl rfl rfl rfl rfl rfl ?_
  refine cv_here ?_
  obtain rfl:=oSi h11
  exact fin_objs hΓ [_] (.inr rfl) rfl rfl rfl rfl (.inr ⟨HB.mk rfl,rfl⟩)
theorem Kga {d:Kba} {l:List Kbb} {al:BagT} {r:(List Kbh)×BagT} (h:Kfj d l al=some r):EC Tryz.prog 18 [.agg (fD d),.d (Sl Kgl l)] [bg al] fun g hp'=>g=.d (Sl Kgq r.1)∧hp'=[bg r.2]:=by
 refine ec_enter (Fr.of 0 _) Tryz.func18 rfl (Fr.of_ok _) (nBe rfl) fun _=>?_
 refine go_in ?_
 unfold Kfj at h
 refine go hΓ 2 rfl ?_
 refine eo_box rfl rfl rfl rfl (nBe rfl) ?_
 obtain ⟨y1,hy1,h2⟩:=bi_ok h
 refine go_ops hΓ 7 rfl ?_
 refine eo_callF [0] (.tup [.ptr 6 0,.sl 7 y1.2.1.length]) [bg y1.2.2,.box 29 (fD d),mOb kS false (eH (some 0)) y1.1.keys,mOb kS false (eH (some 0)) y1.1.nodes,mOb kS false eB y1.1.ever,mOb kS false (eV 107 3) y1.1.History,.box 220 [.d (Sl eS y1.1.d.Users),.d (Sl Kgj y1.1.d.Owners),I y1.1.d.Life,B y1.1.d.Approve,.map 2,.map 3,.map 4,.map 5],rO 48 2 Kgq y1.2.1] (callable Tryz.func94 rfl rfl) (Kfz hy1) rfl (nBe rfl) rfl rfl rfl rfl rfl rfl rfl rfl rfl rfl ?_
 refine eo_shr 7 [10] _ [bg y1.2.2,.box 29 (fD d),mOb kS false (eH (some 0)) y1.1.keys,mOb kS false (eH (some 0)) y1.1.nodes,mOb kS false eB y1.1.ever,mOb kS false (eV 107 3) y1.1.History,.box 220 [.d (Sl eS y1.1.d.Users),.d (Sl Kgj y1.1.d.Owners),I y1.1.d.Life,B y1.1.d.Approve,.map 2,.map 3,.map 4,.map 5],.dead] rfl rfl rfl (nBe rfl) ?_
 refine go_ops hΓ 14 rfl ?_
 obtain rfl:=oSi h2
 exact fin_objs hΓ [_,_,_,_,_,_,_] (.inr rfl) rfl rfl rfl rfl (.inr ⟨HB.mk rfl,rfl⟩)
theorem Kgb {s1:List Kbh} {s2:List Kbh} {r:Bool} (h:Kfk s1 s2=some r):Pure Tryz.prog 17 [.d (Sl Kgq s1),.d (Sl Kgq s2)] (B r):=by
 refine Pure.enter (Fr.of 0 _) Tryz.func17 rfl (Fr.of_ok _) rfl rfl ?_
 refine go_in ?_
 unfold Kfk at h
 refine go hΓ 15 rfl ?_
 refine j_cond rfl (fun hb=>?_) (fun hb=>?_)
 ·have h1:=cT h hb
  refine go hΓ 7 rfl ?_
  obtain rfl:=oSi h1
  exact fin_pure hΓ (.inr rfl) rfl rfl
 ·have h2:=cF h hb
  refine go hΓ 10 rfl ?_
  obtain ⟨q6,hq6,h7⟩:=bi_ok h2
  refine j_bound 0 rfl fun hb9=>?_
  refine j_cutEZ (R:=fun a8=>q6=.go a8) (fun a8=>[]) (fun a8=>[]) ?_ ?_
  ·refine go hΓ 1 rfl ?_
   refine j_range s1 hq6 (fun i3 s4=>[(0,.d (Sl Kgq s1)),(1,.d (Sl Kgq s2)),(12,I (s1.length:Int)),(13,I (i3:Int))]) (fun s4=>[]) ⟨⟨rfl,rfl,rfl,rfl,trivial⟩,[],rfl,.inl rfl⟩ (fun i3 x5 s4 y13 hx10 hlt hy11 hout12=>?_) (fun s4 hgo=>?_)
   ·refine go hΓ 6 rfl ?_
    refine j_condT rfl (decide_eq_true (Int.ofNat_lt.2 hlt)) ?_
    refine go hΓ 11 rfl ?_
    refine j_draw hmix (by kernel_rfl) ?_
    refine go hΓ 2 rfl ?_
    refine gl_o rfl (op_elemZ hΓ (enc:=Kgq) (getZ_nat hx10) rfl rfl rfl rfl rfl (fun _=>rfl)) ?_
    obtain ⟨x14,hx14,h15⟩:=bi_ok hy11
    refine go_draw hΓ 3 rfl ?_
    refine gl_o rfl (op_elemZ hΓ (enc:=Kgq) hx14 rfl rfl rfl rfl rfl (fun _=>rfl)) ?_
    refine go_draw hΓ 1 rfl ?_
    refine gl_o rfl (op_neS hΓ [48] (b:=(((x5.Step:Int)==x14.Step)&&(((x5.Why:Int)==x14.Why)&&true))) (by kernel_rfl) (by kernel_rfl) rfl rfl rfl) ?_
    refine go_draw hΓ 2 rfl ?_
    refine j_cond rfl (fun hb=>?_) (fun hb=>?_)
    ·have h16:=cT h15 hb
     refine go hΓ 8 rfl ?_
     obtain ⟨v17,hv17,h18⟩:=bi_ok h16
     obtain rfl:=oSi h18
     obtain rfl:=hout12 _ rfl
     obtain rfl:=oSi h7
     refine go hΓ 4 rfl ?_
     obtain rfl:=oSi hv17
     exact fin_pure hΓ (.inr rfl) rfl rfl
    ·have h19:=cF h15 hb
     refine go hΓ 7 rfl ?_
     obtain rfl:=oSi h19
     exact ⟨_,rfl,⟨⟨rfl,rfl,rfl,get_eq rfl (w64_succ (Nat.lt_of_lt_of_le hlt hb9)),trivial⟩,[],rfl,.inl rfl⟩⟩
   ·subst hgo
    refine go hΓ 6 rfl ?_
    refine j_condF rfl (decide_eq_false (Int.lt_irrefl _)) ?_
    refine go hΓ 4 rfl ?_
    exact ⟨_,rfl,⟨trivial,[],rfl,.inl rfl⟩⟩
  ·intro a8 ha
   subst ha
   replace h7:=goI_l h7
   refine go hΓ 7 rfl ?_
   obtain rfl:=oSi h7
   exact fin_pure hΓ (.inr rfl) rfl rfl
theorem Kgc {x:Kbb} {x2:Kbb} {r:Bool} (h:Kfl x x2=some r):EC Tryz.prog 97 [.agg (fS x),.ptr 0 0] [.box 37 (fS x2)] fun g hp'=>g=B r∧hp'=[.box 37 (fS x2)]:=by
 refine ec_enter (Fr.of 0 _) Tryz.func97 rfl (Fr.of_ok _) (nBe rfl) fun _=>?_
 refine go_in ?_
 unfold Kfl at h
 refine go hΓ 2 rfl ?_
 refine eo_box rfl rfl rfl rfl (nBe rfl) ?_
 refine go_ops hΓ 11 rfl ?_
 refine o_cut 6 [(3,B false),(15,B (((x.Server:Str)==x2.Server)&&((x.No:Int)==x2.No)))] [.box 37 (fS x2),.box 37 (fS x)] ?_ ?_
 ·refine eo_gsplit rfl rfl (fun hb=>?_) (fun hb=>?_)
  ·refine go_ops hΓ 7 rfl ?_
   exact ⟨⟨rfl,get_b rfl (and_t hb),trivial⟩,[],rfl,.inl rfl⟩
  ·refine go_ops hΓ 7 rfl ?_
   exact ⟨⟨rfl,get_b rfl (and_f hb),trivial⟩,[],rfl,.inl rfl⟩
 ·refine go_ops hΓ 4 rfl ?_
  obtain rfl:=oSi h
  exact fin_objs hΓ [_] (.inr rfl) rfl rfl rfl rfl (.inr ⟨HB.mk rfl,rfl⟩)
theorem Kgd {s:List Kbb} {f:Kbb} {r:Int} (h:Kfm s f=some r):EC Tryz.prog 114 [.d (Sl Kgl s),.fn (.func 97) [] [.ptr 0 0]] [.box 37 (fS f)] fun g hp'=>g=I r∧hp'=[.box 37 (fS f)]:=by
 refine ec_enter (Fr.of 0 _) Tryz.func114 rfl (Fr.of_ok _) (nBe rfl) fun _=>?_
 refine go_in ?_
 unfold Kfm at h
 refine go hΓ 13 rfl ?_
 obtain ⟨q4,hq4,h5⟩:=bi_ok h
 refine j_bound 0 rfl fun hb7=>?_
 refine j_cutEZ (R:=fun a6=>q4=.go a6) (fun a6=>[]) (fun a6=>[.box 37 (fS f)]) ?_ ?_
 ·refine go hΓ 1 rfl ?_
  refine j_range s hq4 (fun i1 s2=>[(0,.d (Sl Kgl s)),(1,.fn (.func 97) [] [.ptr 0 0]),(7,I (s.length:Int)),(8,I (i1:Int))]) (fun s2=>[.box 37 (fS f)]) ⟨⟨rfl,rfl,rfl,rfl,trivial⟩,[],rfl,.inl rfl⟩ (fun i1 x3 s2 y11 hx8 hlt hy9 hout10=>?_) (fun s2 hgo=>?_)
  ·refine go hΓ 6 rfl ?_
   refine j_condT rfl (decide_eq_true (Int.ofNat_lt.2 hlt)) ?_
   refine go hΓ 15 rfl ?_
   refine eo_o rfl (op_elemZ hΓ (enc:=Kgl) (getZ_nat hx8) rfl rfl rfl rfl rfl (fun _=>rfl)) ?_
   obtain ⟨y12,hy12,h13⟩:=bi_ok hy9
   refine go_ops hΓ 1 rfl ?_
   refine eo_callF [0] (B y12) [.box 37 (fS f)] (callable Tryz.func97 rfl rfl) (Kgc hy12) rfl (nBe rfl) rfl rfl rfl rfl rfl rfl rfl rfl rfl rfl ?_
   refine go_ops hΓ 2 rfl ?_
   refine j_cond rfl (fun hb=>?_) (fun hb=>?_)
   ·have h14:=cT h13 hb
    refine go hΓ 9 rfl ?_
    obtain ⟨v15,hv15,h16⟩:=bi_ok h14
    obtain rfl:=oSi h16
    obtain rfl:=hout10 _ rfl
    obtain rfl:=oSi h5
    refine go hΓ 4 rfl ?_
    obtain rfl:=oSi hv15
    exact fin_objs hΓ [] (.inr rfl) rfl rfl rfl rfl (.inl rfl)
   ·have h17:=cF h13 hb
    refine go hΓ 7 rfl ?_
    obtain rfl:=oSi h17
    exact ⟨_,rfl,⟨⟨rfl,rfl,rfl,get_eq rfl (w64_succ (Nat.lt_of_lt_of_le hlt hb7)),trivial⟩,[],rfl,.inl rfl⟩⟩
  ·subst hgo
   refine go hΓ 6 rfl ?_
   refine j_condF rfl (decide_eq_false (Int.lt_irrefl _)) ?_
   refine go hΓ 4 rfl ?_
   exact ⟨_,rfl,⟨trivial,[],rfl,.inl rfl⟩⟩
 ·intro a6 ha
  subst ha
  replace h5:=goI_l h5
  refine go hΓ 7 rfl ?_
  obtain rfl:=oSi h5
  exact fin_objs hΓ [] (.inr rfl) rfl rfl rfl rfl (.inl rfl)
theorem Kge {s:List Kbb} {f:Kbb} {r:Bool} (h:Kfn s f=some r):EC Tryz.prog 90 [.d (Sl Kgl s),.fn (.func 97) [] [.ptr 0 0]] [.box 37 (fS f)] fun g hp'=>g=B r∧hp'=[.box 37 (fS f)]:=by
 refine ec_enter (Fr.of 0 _) Tryz.func90 rfl (Fr.of_ok _) (nBe rfl) fun _=>?_
 refine go_in ?_
 unfold Kfn at h
 obtain ⟨y1,hy1,h2⟩:=bi_ok h
 refine go hΓ 9 rfl ?_
 refine eo_callF [0] (I y1) [.box 37 (fS f)] (callable Tryz.func114 rfl rfl) (Kgd hy1) rfl (nBe rfl) rfl rfl rfl rfl rfl rfl rfl rfl rfl rfl ?_
 refine go_ops hΓ 5 rfl ?_
 obtain rfl:=oSi h2
 exact fin_objs hΓ [] (.inr rfl) rfl rfl rfl rfl (.inl rfl)
theorem Kgf {l:List Kbb} {s:Kbb} {r:Int} (h:Kfo l s=some r):Pure Tryz.prog 19 [.d (Sl Kgl l),.agg (fS s)] (I r):=by
 refine Pure.enter (Fr.of 0 _) Tryz.func19 rfl (Fr.of_ok _) rfl rfl ?_
 refine go_in ?_
 unfold Kfo at h
 refine go hΓ 2 rfl ?_
 refine eo_box rfl rfl rfl rfl (nBe rfl) ?_
 obtain ⟨y1,hy1,h2⟩:=bi_ok h
 refine go_ops hΓ 7 rfl ?_
 refine eo_callP (callable Tryz.func95 rfl rfl) (Kib hy1) rfl (nBe rfl) rfl rfl rfl rfl rfl ?_
 refine go_ops hΓ 9 rfl ?_
 refine j_cond rfl (fun hb=>?_) (fun hb=>?_)
 ·have h3:=cT h2 hb
  refine go hΓ 8 rfl ?_
  obtain rfl:=oSi h3
  exact fin_pure hΓ (.inr rfl) rfl rfl
 ·have h4:=cF h2 hb
  obtain ⟨q5,hq5,h6⟩:=bi_ok h4
  refine go hΓ 11 rfl ?_
  refine j_cutNZ [(0,.d (Sl Kgl l)),(3,.ptr 0 0),(25,B q5)] [.box 37 (fS s)] ?_ ?_
  ·refine j_draw hmix (by kernel_rfl) ?_
   refine go hΓ 3 rfl ?_
   refine gl_gsplit rfl rfl (fun hb=>?_) (fun hb=>?_)
   ·have h7:=cT hq5 hb
    obtain ⟨x8,hx8,h9⟩:=bi_ok h7
    refine go_draw hΓ 3 rfl ?_
    refine gl_og rfl rfl (op_elemZ hΓ (enc:=Kgl) hx8 rfl rfl rfl rfl rfl (fun _=>rfl)) ?_
    obtain ⟨y10,hy10,h11⟩:=bi_ok h9
    refine go_draw hΓ 2 rfl ?_
    refine gl_callPg (callable Tryz.func96 rfl rfl) (Khj hy10) rfl rfl rfl rfl rfl rfl rfl ?_
    refine go_draw hΓ 3 rfl ?_
    obtain rfl:=oSi h11
    exact ⟨⟨rfl,rfl,rfl,trivial⟩,[],rfl,.inl rfl⟩
   ·have h12:=cF hq5 hb
    refine go_draw hΓ 10 rfl ?_
    obtain rfl:=oSi h12
    exact ⟨⟨rfl,rfl,rfl,trivial⟩,[],rfl,.inl rfl⟩
  ·refine go hΓ 1 rfl ?_
   refine j_cond rfl (fun hb=>?_) (fun hb=>?_)
   ·have h13:=cT h6 hb
    refine go hΓ 7 rfl ?_
    obtain rfl:=oSi h13
    exact fin_pure hΓ (.inr rfl) rfl rfl
   ·have h14:=cF h6 hb
    obtain ⟨y15,hy15,h16⟩:=bi_ok h14
    refine go hΓ 7 rfl ?_
    refine eo_callF [0] (B y15) [.box 37 (fS s)] (callable Tryz.func90 rfl rfl) (Kge hy15) rfl (nBe rfl) rfl rfl rfl rfl rfl rfl rfl rfl rfl rfl ?_
    refine go_ops hΓ 2 rfl ?_
    refine j_cond rfl (fun hb=>?_) (fun hb=>?_)
    ·have h17:=cT h16 hb
     refine go hΓ 7 rfl ?_
     obtain rfl:=oSi h17
     exact fin_pure hΓ (.inr rfl) rfl rfl
    ·have h18:=cF h16 hb
     refine go hΓ 8 rfl ?_
     obtain rfl:=oSi h18
     exact fin_pure hΓ (.inr rfl) rfl rfl
theorem Kgg {d:Kba} {l:List Kbb} {s:Kbb} {al:BagT} {r:Int×BagT} (h:Kfp d l s al=some r):EC Tryz.prog 20 [.agg (fD d),.d (Sl Kgl l),.agg (fS s)] [bg al] fun g hp'=>g=I r.1∧hp'=[bg r.2]:=by
 refine ec_enter (Fr.of 0 _) Tryz.func20 rfl (Fr.of_ok _) (nBe rfl) fun _=>?_
 refine go_in ?_
 unfold Kfp at h
 refine go hΓ 2 rfl ?_
 refine eo_box rfl rfl rfl rfl (nBe rfl) ?_
 refine eo_box rfl rfl rfl rfl (nBe rfl) ?_
 obtain ⟨y1,hy1,h2⟩:=bi_ok h
 refine go_ops hΓ 7 rfl ?_
 refine eo_callF [0] (.tup [.ptr 7 0,.sl 8 y1.2.1.length]) [bg y1.2.2,.box 29 (fD d),.box 37 (fS s),mOb kS false (eH (some 0)) y1.1.keys,mOb kS false (eH (some 0)) y1.1.nodes,mOb kS false eB y1.1.ever,mOb kS false (eV 107 3) y1.1.History,.box 220 [.d (Sl eS y1.1.d.Users),.d (Sl Kgj y1.1.d.Owners),I y1.1.d.Life,B y1.1.d.Approve,.map 3,.map 4,.map 5,.map 6],rO 48 2 Kgq y1.2.1] (callable Tryz.func94 rfl rfl) (Kfz hy1) rfl (nBe rfl) rfl rfl rfl rfl rfl rfl rfl rfl rfl rfl ?_
 refine eo_shr 8 [12] _ [bg y1.2.2,.box 29 (fD d),.box 37 (fS s),mOb kS false (eH (some 0)) y1.1.keys,mOb kS false (eH (some 0)) y1.1.nodes,mOb kS false eB y1.1.ever,mOb kS false (eV 107 3) y1.1.History,.box 220 [.d (Sl eS y1.1.d.Users),.d (Sl Kgj y1.1.d.Owners),I y1.1.d.Life,B y1.1.d.Approve,.map 3,.map 4,.map 5,.map 6],.dead] rfl rfl rfl (nBe rfl) ?_
 obtain ⟨y3,hy3,h4⟩:=bi_ok h2
 refine go_ops hΓ 11 rfl ?_
 refine eo_callF [3,4,5,6,7,0] (I y3.1) [bg y3.2.2,.box 29 (fD d),.box 37 (fS s),mOb kS false (eH (some 0)) y3.2.1.keys,mOb kS false (eH (some 0)) y3.2.1.nodes,mOb kS false eB y3.2.1.ever,mOb kS false (eV 107 3) y3.2.1.History,.box 220 [.d (Sl eS y3.2.1.d.Users),.d (Sl Kgj y3.2.1.d.Owners),I y3.2.1.d.Life,B y3.2.1.d.Approve,.map 3,.map 4,.map 5,.map 6],.dead] (callable Tryz.func98 rfl rfl) (Kfy hy3) rfl (nBe rfl) rfl rfl rfl rfl rfl rfl rfl rfl rfl rfl ?_
 refine go_ops hΓ 4 rfl ?_
 obtain rfl:=oSi h4
 exact fin_objs hΓ [_,_,_,_,_,_,_,_] (.inr rfl) rfl rfl rfl rfl (.inr ⟨HB.mk rfl,rfl⟩)
set_option maxHeartbeats 8000000 in
theorem Kgh {k:Nat} {l:List Int} {al:BagT} {r:Bool×BagT} (h:Kfq k l al=some r):EC Tryz.prog 3 [.d (Sl (eN .i64) l)] [bg al] fun g hp'=>g=B r.1∧hp'=[bg r.2]:=by
 refine ec_enter (Fr.of 0 _) Tryz.func3 rfl (Fr.of_ok _) (nBe rfl) fun _=>?_
 refine go_in ?_
 unfold Kfq at h
 refine go hΓ 8 rfl ?_
 refine eo_build hΓ (gs:=[.d (Sl (eN .i64) l),I 0]) rfl rfl rfl rfl rfl rfl rfl ?_
 refine eo_box rfl rfl rfl rfl (nBe rfl) ?_
 obtain ⟨y1,hy1,h2⟩:=bi_ok h
 refine go_ops hΓ 7 rfl ?_
 refine eo_callF [1] (I y1.1) [bg al,.box 25 (fQ y1.2)] (callable Tryz.func11 rfl rfl) (Kgx hy1) rfl (nBe rfl) rfl rfl rfl rfl rfl rfl rfl rfl rfl rfl ?_
 obtain ⟨y3,hy3,h4⟩:=bi_ok h2
 refine eo_callF [1] (.agg [.d (Sl eS y3.1.d.Users),.d (Sl Kgj y3.1.d.Owners),I y3.1.d.Life,B y3.1.d.Approve,.d (Sl Kgl y3.1.l),I y3.1.fault]) [bg al,.box 25 (fQ y3.2)] (callable Tryz.func10 rfl rfl) (Kih hy3) rfl (nBe rfl) rfl rfl rfl rfl rfl rfl rfl rfl rfl rfl ?_
 refine eo_alloc hΓ rfl rfl rfl (nBe rfl) ?_
 refine eo_store hΓ rfl rfl rfl rfl rfl rfl rfl rfl (nBe rfl) ?_
 refine eo_hp [bg al,.box 25 (fQ y3.2),.box 33 [.d (Sl eS y3.1.d.Users),.d (Sl Kgj y3.1.d.Owners),I y3.1.d.Life,B y3.1.d.Approve,.d (Sl Kgl y3.1.l),I y3.1.fault]] rfl ?_
 refine go_ops hΓ 6 rfl ?_
 refine eo_litT hΓ (enc:=(eN .i64)) [0,100,400,1000] rfl rfl rfl rfl rfl rfl rfl rfl rfl rfl rfl rfl (nBe rfl) ?_
 obtain ⟨y5,hy5,h6⟩:=bi_ok h4
 refine eo_callF [1] (I y5.1) [bg al,.box 25 (fQ y5.2),.box 33 [.d (Sl eS y3.1.d.Users),.d (Sl Kgj y3.1.d.Owners),I y3.1.d.Life,B y3.1.d.Approve,.d (Sl Kgl y3.1.l),I y3.1.fault]] (callable Tryz.func13 rfl rfl) (Kgy hy5) rfl (nBe rfl) rfl rfl rfl rfl rfl rfl rfl rfl rfl rfl ?_
 obtain ⟨y7,hy7,h8⟩:=bi_ok h6
 refine eo_callF [1] (.agg (fS y7.1)) [bg al,.box 25 (fQ y7.2),.box 33 [.d (Sl eS y3.1.d.Users),.d (Sl Kgj y3.1.d.Owners),I y3.1.d.Life,B y3.1.d.Approve,.d (Sl Kgl y3.1.l),I y3.1.fault]] (callable Tryz.func12 rfl rfl) (Khf hy7) rfl (nBe rfl) rfl rfl rfl rfl rfl rfl rfl rfl rfl rfl ?_
 refine eo_alloc hΓ rfl rfl rfl (nBe rfl) ?_
 refine eo_store hΓ rfl rfl rfl rfl rfl rfl rfl rfl (nBe rfl) ?_
 refine eo_hp [bg al,.box 25 (fQ y7.2),.box 33 [.d (Sl eS y3.1.d.Users),.d (Sl Kgj y3.1.d.Owners),I y3.1.d.Life,B y3.1.d.Approve,.d (Sl Kgl y3.1.l),I y3.1.fault],.box 37 (fS y7.1)] rfl ?_
 refine go_ops hΓ 5 rfl ?_
 refine eo_litT hΓ (enc:=(eN .i64)) [1,50,50,50] rfl rfl rfl rfl rfl rfl rfl rfl rfl rfl rfl rfl (nBe rfl) ?_
 obtain ⟨y9,hy9,h10⟩:=bi_ok h8
 refine eo_callF [1] (I y9.1) [bg al,.box 25 (fQ y9.2),.box 33 [.d (Sl eS y3.1.d.Users),.d (Sl Kgj y3.1.d.Owners),I y3.1.d.Life,B y3.1.d.Approve,.d (Sl Kgl y3.1.l),I y3.1.fault],.box 37 (fS y7.1)] (callable Tryz.func13 rfl rfl) (Kgy hy9) rfl (nBe rfl) rfl rfl rfl rfl rfl rfl rfl rfl rfl rfl ?_
 refine go_ops hΓ 1 rfl ?_
 refine eo_store hΓ rfl rfl rfl rfl rfl rfl rfl rfl (nBe rfl) ?_
 refine eo_hp [bg al,.box 25 (fQ y9.2),.box 33 [.d (Sl eS y3.1.d.Users),.d (Sl Kgj y3.1.d.Owners),I y3.1.d.Life,B y3.1.d.Approve,.d (Sl Kgl y3.1.l),I y3.1.fault],.box 37 [I y7.1.At,S y7.1.Server,I y9.1,I y7.1.Kind,S y7.1.By,S y7.1.Node,S y7.1.Join,S y7.1.Public,S y7.1.Name,.d (Sl eS y7.1.Tags),I y7.1.Until,I y7.1.Uses,B y7.1.Ready]] rfl ?_
 obtain ⟨y11,hy11,h12⟩:=bi_ok h10
 refine go_ops hΓ 8 rfl ?_
 refine eo_callF [0] (.tup [.d (Sl Kgq y11.1),I y11.2.1]) [bg y11.2.2,.box 25 (fQ y9.2),.box 33 [.d (Sl eS y3.1.d.Users),.d (Sl Kgj y3.1.d.Owners),I y3.1.d.Life,B y3.1.d.Approve,.d (Sl Kgl y3.1.l),I y3.1.fault],.box 37 [I y7.1.At,S y7.1.Server,I y9.1,I y7.1.Kind,S y7.1.By,S y7.1.Node,S y7.1.Join,S y7.1.Public,S y7.1.Name,.d (Sl eS y7.1.Tags),I y7.1.Until,I y7.1.Uses,B y7.1.Ready]] (callable Tryz.func14 rfl rfl) (Kjv hy11) rfl (nBe rfl) rfl rfl rfl rfl rfl rfl rfl rfl rfl rfl ?_
 obtain ⟨y13,hy13,h14⟩:=bi_ok h12
 refine go_ops hΓ 14 rfl ?_
 refine eo_callF [0] (.tup [I y13.1,I y13.2.1]) [bg y13.2.2,.box 25 (fQ y9.2),.box 33 [.d (Sl eS y3.1.d.Users),.d (Sl Kgj y3.1.d.Owners),I y3.1.d.Life,B y3.1.d.Approve,.d (Sl Kgl y3.1.l),I y3.1.fault],.box 37 [I y7.1.At,S y7.1.Server,I y9.1,I y7.1.Kind,S y7.1.By,S y7.1.Node,S y7.1.Join,S y7.1.Public,S y7.1.Name,.d (Sl eS y7.1.Tags),I y7.1.Until,I y7.1.Uses,B y7.1.Ready]] (callable Tryz.func15 rfl rfl) (Kkb hy13) rfl (nBe rfl) rfl rfl rfl rfl rfl rfl rfl rfl rfl rfl ?_
 refine go_ops hΓ 15 rfl ?_
 refine j_cond rfl (fun hb=>?_) (fun hb=>?_)
 ·have h15:=cT h14 hb
  refine go hΓ 7 rfl ?_
  refine o_cut 5 [(2,B false),(6,.d (Sl Kgq y11.1)),(8,I y13.1),(56,B (((y11.2.1:Int)==y3.1.fault)&&((y13.2.1:Int)==y3.1.fault)))] [bg y13.2.2,.box 25 (fQ y9.2),.box 33 [.d (Sl eS y3.1.d.Users),.d (Sl Kgj y3.1.d.Owners),I y3.1.d.Life,B y3.1.d.Approve,.d (Sl Kgl y3.1.l),I y3.1.fault],.box 37 [I y7.1.At,S y7.1.Server,I y9.1,I y7.1.Kind,S y7.1.By,S y7.1.Node,S y7.1.Join,S y7.1.Public,S y7.1.Name,.d (Sl eS y7.1.Tags),I y7.1.Until,I y7.1.Uses,B y7.1.Ready]] ?_ ?_
  ·refine eo_gsplit rfl rfl (fun hb=>?_) (fun hb=>?_)
   ·refine go_ops hΓ 6 rfl ?_
    exact ⟨⟨rfl,rfl,rfl,get_b rfl (and_t hb),trivial⟩,[],rfl,.inl rfl⟩
   ·refine go_ops hΓ 6 rfl ?_
    exact ⟨⟨rfl,rfl,rfl,get_b rfl (and_f hb),trivial⟩,[],rfl,.inl rfl⟩
  ·refine go_ops hΓ 1 rfl ?_
   refine o_cut 4 [(2,B false),(8,I y13.1),(61,B ((((y11.2.1:Int)==y3.1.fault)&&((y13.2.1:Int)==y3.1.fault))&&(((y11.1.length:Int):Int)==0)))] [bg y13.2.2,.box 25 (fQ y9.2),.box 33 [.d (Sl eS y3.1.d.Users),.d (Sl Kgj y3.1.d.Owners),I y3.1.d.Life,B y3.1.d.Approve,.d (Sl Kgl y3.1.l),I y3.1.fault],.box 37 [I y7.1.At,S y7.1.Server,I y9.1,I y7.1.Kind,S y7.1.By,S y7.1.Node,S y7.1.Join,S y7.1.Public,S y7.1.Name,.d (Sl eS y7.1.Tags),I y7.1.Until,I y7.1.Uses,B y7.1.Ready]] ?_ ?_
   ·refine eo_gsplit rfl rfl (fun hb=>?_) (fun hb=>?_)
    ·refine go_ops hΓ 5 rfl ?_
     exact ⟨⟨rfl,rfl,get_b rfl (and_t hb),trivial⟩,[],rfl,.inl rfl⟩
    ·refine go_ops hΓ 5 rfl ?_
     exact ⟨⟨rfl,rfl,get_b rfl (and_f hb),trivial⟩,[],rfl,.inl rfl⟩
   ·refine go_ops hΓ 1 rfl ?_
    refine o_cut 3 [(2,B false),(65,B (((((y11.2.1:Int)==y3.1.fault)&&((y13.2.1:Int)==y3.1.fault))&&(((y11.1.length:Int):Int)==0))&&((y13.1:Int)==0)))] [bg y13.2.2,.box 25 (fQ y9.2),.box 33 [.d (Sl eS y3.1.d.Users),.d (Sl Kgj y3.1.d.Owners),I y3.1.d.Life,B y3.1.d.Approve,.d (Sl Kgl y3.1.l),I y3.1.fault],.box 37 [I y7.1.At,S y7.1.Server,I y9.1,I y7.1.Kind,S y7.1.By,S y7.1.Node,S y7.1.Join,S y7.1.Public,S y7.1.Name,.d (Sl eS y7.1.Tags),I y7.1.Until,I y7.1.Uses,B y7.1.Ready]] ?_ ?_
    ·refine eo_gsplit rfl rfl (fun hb=>?_) (fun hb=>?_)
     ·refine go_ops hΓ 4 rfl ?_
      exact ⟨⟨rfl,get_b rfl (and_t hb),trivial⟩,[],rfl,.inl rfl⟩
     ·refine go_ops hΓ 4 rfl ?_
      exact ⟨⟨rfl,get_b rfl (and_f hb),trivial⟩,[],rfl,.inl rfl⟩
    ·refine go_ops hΓ 1 rfl ?_
     obtain ⟨q16,hq16,h17⟩:=bi_ok h15
     refine o_cut 2 [(2,B false),(68,B q16)] [bg y13.2.2,.box 25 (fQ y9.2),.box 33 [.d (Sl eS y3.1.d.Users),.d (Sl Kgj y3.1.d.Owners),I y3.1.d.Life,B y3.1.d.Approve,.d (Sl Kgl y3.1.l),I y3.1.fault],.box 37 [I y7.1.At,S y7.1.Server,I y9.1,I y7.1.Kind,S y7.1.By,S y7.1.Node,S y7.1.Join,S y7.1.Public,S y7.1.Name,.d (Sl eS y7.1.Tags),I y7.1.Until,I y7.1.Uses,B y7.1.Ready]] ?_ ?_
     ·refine eo_gsplit rfl rfl (fun hb=>?_) (fun hb=>?_)
      ·have h18:=cT hq16 hb
       obtain ⟨y19,hy19,h20⟩:=bi_ok h18
       refine eo_guard rfl ?_
       refine eo_callP (callable Tryz.func16 rfl rfl) (Kkd hy19) rfl (nBe rfl) rfl rfl rfl rfl rfl ?_
       refine go_ops hΓ 2 rfl ?_
       obtain rfl:=oSi h20
       exact ⟨⟨rfl,rfl,trivial⟩,[],rfl,.inl rfl⟩
      ·have h21:=cF hq16 hb
       refine go_ops hΓ 3 rfl ?_
       obtain rfl:=oSi h21
       exact ⟨⟨rfl,rfl,trivial⟩,[],rfl,.inl rfl⟩
     ·refine go_ops hΓ 5 rfl ?_
      obtain rfl:=oSi h17
      exact fin_objs hΓ [_,_,_] (.inr rfl) rfl rfl rfl rfl (.inr ⟨HB.mk rfl,rfl⟩)
 ·have h22:=cF h14 hb
  refine go hΓ 8 rfl ?_
  obtain ⟨q23,hq23,h24⟩:=bi_ok h22
  refine o_cut 9 [(4,.ptr 2 0),(5,.ptr 3 0),(8,I y13.1),(9,I y13.2.1),(80,B q23.2)] [bg q23.1,.box 25 (fQ y9.2),.box 33 [.d (Sl eS y3.1.d.Users),.d (Sl Kgj y3.1.d.Owners),I y3.1.d.Life,B y3.1.d.Approve,.d (Sl Kgl y3.1.l),I y3.1.fault],.box 37 [I y7.1.At,S y7.1.Server,I y9.1,I y7.1.Kind,S y7.1.By,S y7.1.Node,S y7.1.Join,S y7.1.Public,S y7.1.Name,.d (Sl eS y7.1.Tags),I y7.1.Until,I y7.1.Uses,B y7.1.Ready]] ?_ ?_
  ·refine eo_gsplit rfl rfl (fun hb=>?_) (fun hb=>?_)
   ·have h25:=cT hq23 hb
    refine go_ops hΓ 10 rfl ?_
    obtain rfl:=oSi h25
    exact ⟨⟨rfl,rfl,rfl,rfl,rfl,trivial⟩,[],rfl,.inl rfl⟩
   ·have h26:=cF hq23 hb
    obtain ⟨y27,hy27,h28⟩:=bi_ok h26
    refine go_ops hΓ 5 rfl ?_
    refine eo_guard rfl ?_
    refine eo_callF [0] (.d (Sl Kgq y27.1)) [bg y27.2,.box 25 (fQ y9.2),.box 33 [.d (Sl eS y3.1.d.Users),.d (Sl Kgj y3.1.d.Owners),I y3.1.d.Life,B y3.1.d.Approve,.d (Sl Kgl y3.1.l),I y3.1.fault],.box 37 [I y7.1.At,S y7.1.Server,I y9.1,I y7.1.Kind,S y7.1.By,S y7.1.Node,S y7.1.Join,S y7.1.Public,S y7.1.Name,.d (Sl eS y7.1.Tags),I y7.1.Until,I y7.1.Uses,B y7.1.Ready]] (callable Tryz.func18 rfl rfl) (Kga hy27) rfl (nBe rfl) rfl rfl rfl rfl rfl rfl rfl rfl rfl rfl ?_
    obtain ⟨y29,hy29,h30⟩:=bi_ok h28
    refine eo_guard rfl ?_
    refine eo_callP (callable Tryz.func17 rfl rfl) (Kgb hy29) rfl (nBe rfl) rfl rfl rfl rfl rfl ?_
    refine go_ops hΓ 3 rfl ?_
    obtain rfl:=oSi h30
    exact ⟨⟨rfl,rfl,rfl,rfl,rfl,trivial⟩,[],rfl,.inl rfl⟩
  ·refine go_ops hΓ 2 rfl ?_
   refine j_cond rfl (fun hb=>?_) (fun hb=>?_)
   ·have h31:=cT h24 hb
    refine go hΓ 7 rfl ?_
    obtain rfl:=oSi h31
    exact fin_objs hΓ [_,_,_] (.inr rfl) rfl rfl rfl rfl (.inr ⟨HB.mk rfl,rfl⟩)
   ·have h32:=cF h24 hb
    obtain ⟨y33,hy33,h34⟩:=bi_ok h32
    refine go hΓ 8 rfl ?_
    refine eo_callP (callable Tryz.func19 rfl rfl) (Kgf hy33) rfl (nBe rfl) rfl rfl rfl rfl rfl ?_
    refine go_ops hΓ 9 rfl ?_
    refine j_cond rfl (fun hb=>?_) (fun hb=>?_)
    ·have h35:=cT h34 hb
     refine go hΓ 6 rfl ?_
     refine o_cut 3 [(93,B (((y13.2.1:Int)==y33)&&((y13.1:Int)==0)))] [bg q23.1,.box 25 (fQ y9.2),.box 33 [.d (Sl eS y3.1.d.Users),.d (Sl Kgj y3.1.d.Owners),I y3.1.d.Life,B y3.1.d.Approve,.d (Sl Kgl y3.1.l),I y3.1.fault],.box 37 [I y7.1.At,S y7.1.Server,I y9.1,I y7.1.Kind,S y7.1.By,S y7.1.Node,S y7.1.Join,S y7.1.Public,S y7.1.Name,.d (Sl eS y7.1.Tags),I y7.1.Until,I y7.1.Uses,B y7.1.Ready]] ?_ ?_
     ·refine eo_gsplit rfl rfl (fun hb=>?_) (fun hb=>?_)
      ·refine go_ops hΓ 4 rfl ?_
       exact ⟨⟨get_b rfl (and_t hb),trivial⟩,[],rfl,.inl rfl⟩
      ·refine go_ops hΓ 4 rfl ?_
       exact ⟨⟨get_b rfl (and_f hb),trivial⟩,[],rfl,.inl rfl⟩
     ·refine go_ops hΓ 1 rfl ?_
      obtain ⟨q36,hq36,h37⟩:=bi_ok h35
      refine o_cut 2 [(96,B q36)] [bg q23.1,.box 25 (fQ y9.2),.box 33 [.d (Sl eS y3.1.d.Users),.d (Sl Kgj y3.1.d.Owners),I y3.1.d.Life,B y3.1.d.Approve,.d (Sl Kgl y3.1.l),I y3.1.fault],.box 37 [I y7.1.At,S y7.1.Server,I y9.1,I y7.1.Kind,S y7.1.By,S y7.1.Node,S y7.1.Join,S y7.1.Public,S y7.1.Name,.d (Sl eS y7.1.Tags),I y7.1.Until,I y7.1.Uses,B y7.1.Ready]] ?_ ?_
      ·refine eo_gsplit rfl rfl (fun hb=>?_) (fun hb=>?_)
       ·have h38:=cT hq36 hb
        obtain ⟨y39,hy39,h40⟩:=bi_ok h38
        refine eo_guard rfl ?_
        refine eo_callP (callable Tryz.func16 rfl rfl) (Kkd hy39) rfl (nBe rfl) rfl rfl rfl rfl rfl ?_
        refine go_ops hΓ 2 rfl ?_
        obtain rfl:=oSi h40
        exact ⟨⟨rfl,trivial⟩,[],rfl,.inl rfl⟩
       ·have h41:=cF hq36 hb
        refine go_ops hΓ 3 rfl ?_
        obtain rfl:=oSi h41
        exact ⟨⟨rfl,trivial⟩,[],rfl,.inl rfl⟩
      ·refine go_ops hΓ 5 rfl ?_
       obtain rfl:=oSi h37
       exact fin_objs hΓ [_,_,_] (.inr rfl) rfl rfl rfl rfl (.inr ⟨HB.mk rfl,rfl⟩)
    ·have h42:=cF h34 hb
     refine go hΓ 7 rfl ?_
     obtain ⟨q43,hq43,h44⟩:=bi_ok h42
     refine o_cut 9 [(108,B q43.2)] [bg q43.1,.box 25 (fQ y9.2),.box 33 [.d (Sl eS y3.1.d.Users),.d (Sl Kgj y3.1.d.Owners),I y3.1.d.Life,B y3.1.d.Approve,.d (Sl Kgl y3.1.l),I y3.1.fault],.box 37 [I y7.1.At,S y7.1.Server,I y9.1,I y7.1.Kind,S y7.1.By,S y7.1.Node,S y7.1.Join,S y7.1.Public,S y7.1.Name,.d (Sl eS y7.1.Tags),I y7.1.Until,I y7.1.Uses,B y7.1.Ready]] ?_ ?_
     ·refine eo_gsplit rfl rfl (fun hb=>?_) (fun hb=>?_)
      ·have h45:=cT hq43 hb
       obtain ⟨y46,hy46,h47⟩:=bi_ok h45
       refine go_ops hΓ 6 rfl ?_
       refine eo_guard rfl ?_
       refine eo_callF [0] (I y46.1) [bg y46.2,.box 25 (fQ y9.2),.box 33 [.d (Sl eS y3.1.d.Users),.d (Sl Kgj y3.1.d.Owners),I y3.1.d.Life,B y3.1.d.Approve,.d (Sl Kgl y3.1.l),I y3.1.fault],.box 37 [I y7.1.At,S y7.1.Server,I y9.1,I y7.1.Kind,S y7.1.By,S y7.1.Node,S y7.1.Join,S y7.1.Public,S y7.1.Name,.d (Sl eS y7.1.Tags),I y7.1.Until,I y7.1.Uses,B y7.1.Ready]] (callable Tryz.func20 rfl rfl) (Kgg hy46) rfl (nBe rfl) rfl rfl rfl rfl rfl rfl rfl rfl rfl rfl ?_
       refine go_ops hΓ 3 rfl ?_
       obtain rfl:=oSi h47
       exact ⟨⟨rfl,trivial⟩,[],rfl,.inl rfl⟩
      ·have h48:=cF hq43 hb
       refine go_ops hΓ 10 rfl ?_
       obtain rfl:=oSi h48
       exact ⟨⟨rfl,trivial⟩,[],rfl,.inl rfl⟩
     ·refine go_ops hΓ 1 rfl ?_
      obtain ⟨q49,hq49,h50⟩:=bi_ok h44
      refine o_cut 2 [(111,B q49)] [bg q43.1,.box 25 (fQ y9.2),.box 33 [.d (Sl eS y3.1.d.Users),.d (Sl Kgj y3.1.d.Owners),I y3.1.d.Life,B y3.1.d.Approve,.d (Sl Kgl y3.1.l),I y3.1.fault],.box 37 [I y7.1.At,S y7.1.Server,I y9.1,I y7.1.Kind,S y7.1.By,S y7.1.Node,S y7.1.Join,S y7.1.Public,S y7.1.Name,.d (Sl eS y7.1.Tags),I y7.1.Until,I y7.1.Uses,B y7.1.Ready]] ?_ ?_
      ·refine eo_gsplit rfl rfl (fun hb=>?_) (fun hb=>?_)
       ·have h51:=cT hq49 hb
        obtain ⟨y52,hy52,h53⟩:=bi_ok h51
        refine eo_guard rfl ?_
        refine eo_callP (callable Tryz.func16 rfl rfl) (Kkd hy52) rfl (nBe rfl) rfl rfl rfl rfl rfl ?_
        refine go_ops hΓ 2 rfl ?_
        obtain rfl:=oSi h53
        exact ⟨⟨rfl,trivial⟩,[],rfl,.inl rfl⟩
       ·have h54:=cF hq49 hb
        refine go_ops hΓ 3 rfl ?_
        obtain rfl:=oSi h54
        exact ⟨⟨rfl,trivial⟩,[],rfl,.inl rfl⟩
      ·refine go_ops hΓ 4 rfl ?_
       obtain rfl:=oSi h50
       exact fin_objs hΓ [_,_,_] (.inr rfl) rfl rfl rfl rfl (.inr ⟨HB.mk rfl,rfl⟩)
end Go.Proofs.YtjmlnnanfkiakaaGreatDoor
