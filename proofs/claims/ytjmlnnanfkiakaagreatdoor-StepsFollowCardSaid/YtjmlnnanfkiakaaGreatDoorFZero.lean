import Derived.Test.YtjmlnnanfkiakaaGreatDoorFRun
set_option linter.unusedVariables false
set_option linter.unusedSimpArgs false
set_option linter.unusedSectionVars false
set_option maxRecDepth 100000
namespace Go.Gk
section
variable {α β:Type} {m n:Option α} {c:Bool} {Q:α→Prop}
theorem ok_t (h:c=true) (k:Ok m Q):Ok (bif c then m else n) Q:=by subst h; exact k
theorem ok_f (h:c=false) (k:Ok n Q):Ok (bif c then m else n) Q:=by subst h; exact k
end
theorem stepV_of {s:Kbb} (h:StepOk s) (h0:Kct s=some 0):StepV s:=by
 obtain ⟨e,he,he'⟩:=form_two h
 rw [he'] at h0
 cases h0
 have hf:=he
 unfold Kdo at hf
 rw [show Kde s.At=some (decide (s.At≥0)&&decide (s.At<345686400)) from rfl,bi_some] at hf
 cases hm:(decide (s.At≥0)&&decide (s.At<345686400)) with
 | false=>rw [hm] at hf; simp at hf
 | true=>
  rw [hm] at hf
  simp only [Bool.not_true,cond_false] at hf
  obtain ⟨c,hc,_⟩:=key_tab _ h.sv
  rw [hc,bi_some] at hf
  cases c with
  | false=>simp at hf
  | true=>
   simp only [Bool.not_true,cond_false] at hf
   obtain ⟨d,hd,hd'⟩:=outside_in s.No 1 1000000
   rw [hd,bi_some] at hf
   cases d with
   | true=>simp at hf
   | false=>
    simp only [cond_false] at hf
    obtain ⟨f,hf1,hf1'⟩:=outside_in s.Kind 1 9
    rw [hf1,bi_some] at hf
    cases f with
    | true=>simp at hf
    | false=>
     simp only [cond_false] at hf
     have kk:1≤s.Kind∧s.Kind≤9:=by
      unfold Kcm at hf1'
      simpa using hf1'
     simp only [Bool.and_eq_true,decide_eq_true_eq] at hm
     refine ⟨h,⟨by omega,by omega⟩,kk,fun K=>?_⟩
     obtain ⟨b0,hb0,hb0'⟩:=key_tab _ h.by_
     obtain ⟨b2,hb2,hb2'⟩:=key_tab _ h.jn
     obtain ⟨e5,he5,he5',hl5⟩:=tags_tab _ h.tg
     have P0:=pf0 s hb0; have P2:=pf2 s hb2; have P5:=pf5 s he5 hl5
     have P6:=pf6 s; have P7:=pf7 s; have P8:=pf8 s
     rw [K] at P0 P2
     have hq:=(bi_of (show Kdf s.Kind=some [0,2,5,6,7,8] by rw [K]; rfl) (tail_p s [0,2,5,6,7,8] [bif b0 then 0 else 5,bif b2 then 0 else 5,e5,_,_,0] (by simp only [List.map_cons,List.map_nil,P0,P2,P5,P6,P7,P8]; cases b0<;>cases b2<;>rfl))).symm.trans hf
     cases b0 with
     | false=>simp [List.find?] at hq
     | true=>
      cases b2 with
      | false=>simp [List.find?] at hq
      | true=>
       refine ⟨fun g=>?_,fun g=>?_⟩
       ·have:=empty_key hb2' (by rw [g]; rfl); cases this
       ·have:=empty_key hb0' (by rw [g]; rfl); cases this
theorem ord_at (a b:Kbb):∃ c,Kcb a b=some c∧(c<0→a.At≤b.At):=by
 unfold Kcb Kal
 rw [cmpInt_ok,cmpInt_ok]
 simp only [bi_some]
 obtain ⟨c,h,h2⟩:=orInt_ok (cmpI a.At b.At) [Lib.compareBytes a.Server b.Server,cmpI a.No b.No]
 rw [h]
 refine ⟨c,rfl,fun hc=>?_⟩
 by_cases h0:cmpI a.At b.At=0
 ·unfold cmpI at h0
  split at h0
  ·omega
  ·split at h0<;>omega
 ·have:=h2 h0
  rw [this] at hc
  unfold cmpI at hc
  split at hc
  ·omega
  ·split at hc<;>omega
theorem fault_zero {l:List Kbb} (h:AllS l) (hl:l.length≤1000) (h0:Kcx l=some 0):AllV l∧Srt l:=by
 have key:Ok (Kcx l) fun e=>e=0→(∀ s∈l,Kct s=some 0)∧∀ (j:Nat) a b,l[j]?=some a→l[j+1]?=some b→a.At≤b.At:=by
  unfold Kcx
  rw [decide_eq_false (show ¬ ((l.length:Int)>2000) by omega)]
  simp only [cond_false]
  refine ok_bi (ok_rangeM (fun i (_:Unit)=>(∀ s∈l.take i,Kct s=some 0)∧∀ (j:Nat) a b,j+1<i→l[j]?=some a→l[j+1]?=some b→a.At≤b.At) (fun q=>q≠0) ⟨fun s hs=>by simp at hs,fun j a b hj=>absurd hj (by omega)⟩ fun i x st hx hI=>?_) fun r hr=>?_
  ·have hi:i<l.length:=(List.getElem?_eq_some_iff.1 hx).1
   obtain ⟨e,_,he⟩:=form_two (h x (List.mem_of_getElem? hx))
   refine ok_eq he ?_
   refine ok_bif (fun hz=>ok_some (by simpa using hz)) fun hz=>?_
   have hz:e=0:=by simpa using hz
   subst hz
   refine ok_bi (P:=fun q=>q=false→∀ (j:Nat) a,j+1=i→l[j]?=some a→a.At≤x.At) (ok_bif (fun g=>?_) fun g=>ok_some fun _ j a hj=>?_) fun q hq=>?_
   ·have g:(i:Int)>0:=of_decide_eq_true g
    refine ok_get (j:=i - 1) (x:=l[i - 1]) (by rw [wi_id (by omega) (by omega)]; omega) (List.getElem?_eq_getElem (by omega)) ?_
    obtain ⟨c,hc,hc2⟩:=ord_at l[i - 1] x
    refine ok_eq hc (ok_some fun hf j a hj ha=>?_)
    have:¬ (c≥0):=of_decide_eq_false hf
    have e1:j=i - 1:=by omega
    subst e1
    rw [List.getElem?_eq_getElem (by omega)] at ha
    cases ha
    exact hc2 (by omega)
   ·have:=of_decide_eq_false g
    omega
   ·refine ok_bif (fun _=>ok_some (show (7:Int)≠0 by decide)) fun hq0=>?_
    rw [show subZ l 0 (i:Int)=some (l.take i) from (subZ_cast (i:=0) (Nat.zero_le _) (by omega)).trans rfl]
    refine ok_eq rfl (ok_eq (contF_ok _ _) (ok_bif (fun _=>ok_some (show (6:Int)≠0 by decide)) fun _=>ok_some ⟨fun s hs=>?_,fun j a b hj ha hb=>?_⟩))
    ·rw [take_succ hx,List.mem_append] at hs
     rcases hs with hs | hs
     ·exact hI.1 s hs
     ·rw [List.mem_singleton] at hs
      subst hs
      exact he
    ·by_cases hji:j+1=i
     ·subst hji
      rw [hx] at hb
      cases hb
      exact hq hq0 j a rfl ha
     ·exact hI.2 j a b (by omega) ha hb
  ·cases r with
   | out q=>exact ok_some fun g=>absurd g hr
   | go s=>
    rw [List.take_length] at hr
    exact ok_some fun _=>⟨hr.1,fun j a b ha hb=>hr.2 j a b (List.getElem?_eq_some_iff.1 hb).1 ha hb⟩
 obtain ⟨e,h1,h2⟩:=key
 rw [h0] at h1
 cases h1
 obtain ⟨h2,h3⟩:=h2 rfl
 refine ⟨fun s hs=>stepV_of (h s hs) (h2 s hs),pw_of ?_⟩
 have far:∀ (n i:Nat) (a b:Kbb),l[i]?=some a→l[i+1+n]?=some b→a.At≤b.At:=by
  intro n
  induction n with
  | zero=>exact fun i a b ha hb=>h3 i a b ha hb
  | succ n ih=>
   intro i a b ha hb
   have hi:i+1+(n+1)<l.length:=(List.getElem?_eq_some_iff.1 hb).1
   have hm:l[i+1+n]?=some l[i+1+n]:=List.getElem?_eq_getElem (by omega)
   have h4:=ih i a _ ha hm
   have h5:=h3 _ _ _ hm hb
   omega
 intro i j a b hij ha hb
 obtain ⟨n,rfl⟩:∃ n,j=i+1+n:=⟨j - (i+1),by omega⟩
 exact far n i a b ha hb
theorem logFault_eq {d:Kba} {l:List Kbb} (hd:DirOk d) (hl:AllS l) (hn:l.length≤1000) {e e2:Int} (h1:Kcn d=some e) (h2:Kcx l=some e2) :
  Kds 400 d l=some (if e≠0 then e else e2):=by
 obtain ⟨e3,c1,c2,_⟩:=log_two hl hn
 rw [h2] at c2
 cases c2
 unfold Kds
 rw [dir_eq hd,h1,bi_some]
 by_cases h0:e=0
 ·subst h0; simp [c1,bi_some]
 ·have:(e != 0)=true:=by simpa using h0
  simp [this,h0]
theorem filter_all {l:List Kbb} (hl:AllV l) {z:Int} (hz:345686400≤z):l.filter (fun s=>decide (s.At≤z))=l:=by
 rw [List.filter_eq_self]
 intro s hs
 have:=(hl s hs).z
 exact decide_eq_true (by omega)
theorem whole_ok {d:Kba} {l:List Kbb} (hl:AllV l) (hlen:l.length≤1000) {al:BagT} (hb:BagOk al):∃ n al',Ker d l al=some (n,al')∧RN n al' (runA (A0 d) l) l.length:=by
 obtain ⟨n,al',h1,h2⟩:=upTo_ok (d:=d) hl hlen 345686400 hb
 rw [filter_all hl (Int.le_refl _)] at h2
 refine ⟨n,al',?_,h2⟩
 unfold Ker
 rw [h1]; rfl
theorem contF2_ok (l:List Kbb) (x:Kbb):Kep l x=some (l.any fun y=>sameO y x):=by
 unfold Kep Keo
 rw [bi_rangeM_ix (fun y=>sameO y x) l (fun j y _=>by
  have e2:Ken y x=some (sameO y x):=by
   unfold Ken Kdq sameO
   simp only [bi_some,Bool.and_true]
  rw [e2]; cases sameO y x<;>rfl),bi_some,ixZ_ge]
theorem contF3_ok (l:List Kbb) (x:Kbb):Kfn l x=some (l.any fun y=>sameO y x):=by
 unfold Kfn Kfm
 rw [bi_rangeM_ix (fun y=>sameO y x) l (fun j y _=>by unfold Kfl sameO; cases ((y.Server:Str)==x.Server)<;>cases ((y.No:Int)==x.No)<;>rfl),bi_some,ixZ_ge]
theorem lastB_ok (l:List Kbb) (hl:l.length≤1000) (s:Kbb):∃ b,
  (bif decide (((l.length:Int):Int)>0) then (bi (getZ l (wi ((l.length:Int) - 1))) fun x8=>bi (Kcb x8 s) fun y10=>some (decide ((y10:Int)≥0))) else (some false))=some b:=by
 have key:Ok (bif decide (((l.length:Int):Int)>0) then (bi (getZ l (wi ((l.length:Int) - 1))) fun x8=>bi (Kcb x8 s) fun y10=>some (decide ((y10:Int)≥0))) else (some false)) fun _=>True:=by
  refine ok_bif (fun g=>?_) fun _=>ok_some trivial
  have g:(l.length:Int)>0:=of_decide_eq_true g
  refine ok_get (j:=l.length - 1) (x:=l[l.length - 1]) (by rw [wi_id (by omega) (by omega)]; omega) (List.getElem?_eq_getElem (by omega)) ?_
  obtain ⟨c,hc⟩:=ord_ok l[l.length - 1] s
  exact ok_eq hc (ok_some trivial)
 obtain ⟨b,h,_⟩:=key
 exact ⟨b,h⟩
theorem why_ok {d:Kba} {l:List Kbb} {s:Kbb} (hl:AllV l) (hlen:l.length≤999) (hs:StepOk s) (hf:Kds 400 d l=some 0) {al:BagT} (hb:BagOk al) :
  ∃ e,Kfo l s=some e∧∃ w al',Kes 400 d l s al=some (w,e,al')∧BagOk al'∧(e≠0→w=0)∧(e=0→StepV s∧w=(stepA (runA (A0 d) l) s).1):=by
 obtain ⟨e,h1,h2⟩:=form_two hs
 unfold Kfo Kes
 rw [hf,h1,h2]
 simp only [bi_some,bne_self_eq_false,cond_false]
 cases he:(e != 0) with
 | true=>
  have:e≠0:=by simpa using he
  exact ⟨e,rfl,0,al,rfl,hb,fun _=>rfl,fun g=>absurd g this⟩
 | false=>
  have h0:e=0:=by simpa using he
  subst h0
  have hv:=stepV_of hs h2
  simp only [cond_false]
  rw [show Kdp=Kcb from rfl]
  obtain ⟨b,hq⟩:=lastB_ok l (by omega) s
  rw [hq,bi_some,bi_some]
  cases b with
  | true=>exact ⟨7,rfl,0,al,rfl,hb,fun _=>rfl,fun g=>absurd g (by decide)⟩
  | false=>
   simp only [cond_false]
   rw [contF2_ok,contF3_ok,bi_some,bi_some]
   cases l.any (fun y=>sameO y s) with
   | true=>exact ⟨6,rfl,0,al,rfl,hb,fun _=>rfl,fun g=>absurd g (by decide)⟩
   | false=>
    simp only [cond_false]
    obtain ⟨n,al2,w1,w2⟩:=whole_ok (d:=d) hl (by omega) hb
    obtain ⟨n',al3,f1,f2⟩:=follow_ok (s:=s) w2 (run_inv (A0_inv d) hl) hv (by omega)
    rw [w1,bi_some]
    simp only
    rw [f1,bi_some]
    exact ⟨0,rfl,_,al3,rfl,f2.bag,fun g=>absurd rfl g,fun _=>⟨hv,rfl⟩⟩
end Go.Gk
