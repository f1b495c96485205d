import Derived.Test.YtjmlnnanfkiakaaGreatDoorFZero
set_option linter.unusedVariables false
set_option linter.unusedSimpArgs false
set_option linter.unusedSectionVars false
set_option maxRecDepth 100000
namespace Go.Gk
theorem eqR_ok (l:List Kbh):Kfk l l=some true:=by
 have key:Ok (Kfk l l) fun r=>r=true:=by
  unfold Kfk
  refine ok_f (by simp) ?_
  refine ok_bi (ok_rangeM (fun _ (_:Unit)=>True) (fun _=>False) trivial fun i x st hx _=>?_) fun r hr=>?_
  ·refine ok_get (j:=i) rfl hx (ok_f (by simp) (ok_some trivial))
  ·cases r with
   | out q=>exact hr.elim
   | go s=>exact ok_some rfl
 obtain ⟨r,h,rfl⟩:=key
 exact h
theorem refs_ok {d:Kba} {l:List Kbb} (hl:AllV l) (hlen:l.length≤1000) (hs:Srt l) {al:BagT} (hb:BagOk al):∃ al',Kfj d l al=some (rfA (A0 d) 0 l,al')∧BagOk al':=by
 obtain ⟨v,al',h1,h2⟩:=behind_ok (d:=d) hl hlen hs 345686400 hb
 rw [filter_all hl (Int.le_refl _)] at h1 h2
 refine ⟨al',?_,h2.bag⟩
 unfold Kfj
 rw [h1]; rfl
theorem whyS_ok {d:Kba} {l:List Kbb} {s:Kbb} (hl:AllV l) (hlen:l.length≤999) (hs:Srt l) (hv:StepV s) {al:BagT} (hb:BagOk al):∃ al',Kfp d l s al=some ((stepA (runA (A0 d) l) s).1,al'):=by
 obtain ⟨v,al',h1,h2⟩:=behind_ok (d:=d) hl (by omega) hs 345686400 hb
 rw [filter_all hl (Int.le_refl _)] at h1 h2
 obtain ⟨v',al2,h3,h4⟩:=do_ok (s:=s) h2 (run_inv (A0_inv d) hl) hv (by omega)
 refine ⟨al2,?_⟩
 unfold Kfp
 rw [h1,bi_some]
 simp only
 rw [h3]; rfl
theorem ok_noded {b:Bool} (h:b=true):(bif b then (bi (Keu 400) fun y=>some y) else (some false))=some true:=by subst h; rfl
theorem StepsFollow_true (l:List Int) (hl:l.length≤9223372036854775807):∃ al',Kfq 400 l ([],[],[],[],[],[])=some (true,al'):=by
 have key:Ok (Kfq 400 l ([],[],[],[],[],[])) fun r=>r.1=true:=by
  unfold Kfq
  refine ok_bi (range_d (b:=0) (l:=l) ⟨rfl,Int.le_refl 0,Int.le_refl 0⟩ 0 14 hl (by decide) (by decide) (by decide) (by decide)) fun y1 h1=>?_
  refine ok_bi (yard_d h1.2 hl (by decide) y1.1 (by omega) (by omega)) fun y3 h3=>?_
  obtain ⟨⟨hd,hs,hn,e,he,e2,he2,hf⟩,h3⟩:=h3
  refine ok_bi (pick_d h3 _ hl (by decide) (by decide) (by decide)) fun y5 h5=>?_
  refine ok_bi (one_d h5 hl (by decide) y5.1) fun y7 h7=>?_
  refine ok_bi (pick_d h7.2 _ hl (by decide) (by decide) (by decide)) fun y9 h9=>?_
  have hx:StepOk (⟨y7.1.At,y7.1.Server,y9.1,y7.1.Kind,y7.1.By,y7.1.Node,y7.1.Join,y7.1.Public,y7.1.Name,y7.1.Tags,y7.1.Until,y7.1.Uses,y7.1.Ready⟩:Kbb):=⟨h7.1.sv,h7.1.by_,h7.1.nd,h7.1.jn,h7.1.nm,h7.1.pb,h7.1.tg⟩
  generalize (⟨y7.1.At,y7.1.Server,y9.1,y7.1.Kind,y7.1.By,y7.1.Node,y7.1.Join,y7.1.Public,y7.1.Name,y7.1.Tags,y7.1.Until,y7.1.Uses,y7.1.Ready⟩:Kbb)=x at hx ⊢
  have hb:BagOk (([],[],[],[],[],[]):BagT):=⟨fun e he=>(by cases he),fun e he=>(by cases he),fun e he=>(by cases he),fun e he=>(by cases he)⟩
  have hlog:=logFault_eq hd hs (by omega) he he2
  rw [←hf] at hlog
  by_cases h0:y3.1.fault=0
  ·rw [h0] at hlog
   have h02:e2=0:=by
    rw [h0] at hf
    by_cases g:e=0
    ·subst g; simpa using hf.symm
    ·simp [g] at hf
     exact absurd hf.symm g
   subst h02
   obtain ⟨hv,ho⟩:=fault_zero hs (by omega) he2
   obtain ⟨al1,r1,hb1⟩:=refused_ok hv (by omega) hb hlog
   refine ok_eq r1 ?_
   obtain ⟨ew,w1,w,al2,w2,hb2,w3,w4⟩:=why_ok hv (by omega) hx hlog hb1
   refine ok_eq w2 ?_
   refine ok_f (by rw [h0]; rfl) ?_
   obtain ⟨al3,q1,hb3⟩:=refs_ok (d:=y3.1.d) hv (by omega) ho hb2
   refine ok_eq (r:=(al3,false)) ?_ ?_
   ·refine ?_
    simp only [bne_self_eq_false,cond_false]
    rw [q1,bi_some]
    simp only
    rw [eqR_ok]; rfl
   ·refine ok_f rfl (ok_eq w1 ?_)
    refine ok_bif (fun g=>?_) fun g=>?_
    ·have hne:ew≠0:=by simpa using g
     refine ok_eq (r:=true) ?_ (ok_some rfl)
     rw [w3 hne]
     exact ok_noded (by simp)
    ·have hz:ew=0:=by simpa using g
     subst hz
     obtain ⟨hv2,rfl⟩:=w4 rfl
     obtain ⟨al4,u1⟩:=whyS_ok (d:=y3.1.d) hv (by omega) ho hv2 hb3
     refine ok_eq (r:=(al4,true)) ?_ (ok_eq (r:=true) (ok_noded rfl) (ok_some rfl))
     simp only [beq_self_eq_true,cond_true]
     rw [u1,bi_some]
     simp
  ·have hne:(y3.1.fault != 0)=true:=by simpa using h0
   refine ok_eq (r:=([],y3.1.fault,(([],[],[],[],[],[]):BagT))) (by unfold Kem; rw [hlog,bi_some]; simp only [hne,cond_true]) ?_
   refine ok_eq (r:=(0,y3.1.fault,(([],[],[],[],[],[]):BagT))) (by unfold Kes; rw [hlog,bi_some]; simp only [hne,cond_true]) ?_
   refine ok_t hne (ok_eq (r:=true) (ok_noded (by simp)) (ok_some rfl))
 obtain ⟨⟨r,al'⟩,h,rfl⟩:=key
 exact ⟨al',h⟩
end Go.Gk
