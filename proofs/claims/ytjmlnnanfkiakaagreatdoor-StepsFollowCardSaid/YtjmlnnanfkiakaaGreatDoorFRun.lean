import Derived.Test.YtjmlnnanfkiakaaGreatDoorFHouse3
set_option linter.unusedVariables false
set_option linter.unusedSimpArgs false
set_option linter.unusedSectionVars false
set_option maxRecDepth 100000
namespace Go.Gk
def A0 (d:Kba):Ab:=⟨d,[],[],[],[]⟩
def runA (A:Ab) (l:List Kbb):Ab:=l.foldl (fun A s=>(stepA A s).2) A
def rfA:Ab→Nat→List Kbb→List Kbh
 | _,_,[]=>[]
 | A,i,s :: l=>(bif (stepA A s).1 != 0 then [⟨(i:Int),(stepA A s).1⟩] else [])++rfA (stepA A s).2 (i+1) l
theorem runA_snoc (A:Ab) (l:List Kbb) (s:Kbb):runA A (l++[s])=(stepA (runA A l) s).2:=by
 unfold runA; rw [List.foldl_append]; rfl
theorem rfA_snoc (s:Kbb):∀ (l:List Kbb) (A:Ab) (i:Nat),rfA A i (l++[s])=rfA A i l++(bif (stepA (runA A l) s).1 != 0 then [⟨((i+l.length:Nat):Int),(stepA (runA A l) s).1⟩] else [])
 | [],A,i=>by simp only [List.nil_append,rfA,List.append_nil,List.length_nil,Nat.add_zero]; rfl
 | x :: l,A,i=>by
  simp only [List.cons_append,rfA,rfA_snoc s l,List.append_assoc,List.length_cons]
  have e:i+1+l.length=i+(l.length+1):=by omega
  rw [e]; rfl
theorem rfA_len:∀ (l:List Kbb) (A:Ab) (i:Nat),(rfA A i l).length≤l.length
 | [],A,i=>by simp [rfA]
 | x :: l,A,i=>by
  have:=rfA_len l (stepA A x).2 (i+1)
  simp only [rfA,List.length_append,List.length_cons]
  cases ((stepA A x).1 != 0)<;>simp<;>omega
theorem runA_d (A:Ab) (l:List Kbb):(runA A l).d=A.d:=by
 unfold runA
 induction l generalizing A with
 | nil=>rfl
 | cons x l ih=>rw [List.foldl_cons,ih,step_d]
theorem A0_inv (d:Kba):AInv (A0 d):=⟨fun k p h=>(by cases h),fun k m h=>(by cases h),SM.nil,SM.nil,SM.nil,SM.nil,fun k=>rfl⟩
abbrev AllV (l:List Kbb):Prop:=∀ s∈l,StepV s
theorem run_inv {A:Ab} (hI:AInv A):∀ {l:List Kbb},AllV l→AInv (runA A l)
 | [],_=>hI
 | x :: l,h=>run_inv (step_inv hI (h x List.mem_cons_self)) fun s hs=>h s (List.mem_cons_of_mem _ hs)
theorem newNet_ok (d:Kba) {al:BagT} (hb:BagOk al):∃ n,Kdt d=some n∧RN n al (A0 d) 0:=by
 have key:Ok (rangeF (σ:=List (Str×Bool)) (fun i1 x3 s2=>some (mSet s2 x3 true)) 0 d.Users ([]:List (Str×Bool))) fun m=>∀ u,(mGet m u).getD false=d.Users.any fun x=>u==x:=by
  refine ok_mono (ok_rangeF (fun i m=>∀ u,(mGet m u).getD false=(d.Users.take i).any fun x=>u==x) (fun u=>by simp [mGet]) fun i x m hx hI=>ok_some fun u=>?_) fun m hm=>by simpa using hm
  rw [mGet_set,take_succ hx,List.any_append]
  simp only [List.any_cons,List.any_nil,Bool.or_false]
  cases hu:u==x with
  | true=>simp
  | false=>simpa using hI u
 obtain ⟨m,h1,h2⟩:=key
 refine ⟨⟨d,m,[],[],[]⟩,by unfold Kdt; rw [h1]; rfl,⟨hb,rfl,h2,HOk.nil,rfl,rfl,⟨SM.nil,(fun k s h=>by cases h),(fun k k' s s' h=>by cases h)⟩,rfl⟩⟩
theorem house0 (d:Kba) {al:BagT} (hb:BagOk al):RH ⟨d,[],[],[],[]⟩ al (A0 d) 0:=
 ⟨hb,rfl,HOk.nil,rfl,HOk.nil,rfl,fun k=>rfl,SM.nil,HOk.nil,(fun k w h=>by cases h),rfl⟩
theorem filter_take {l:List Kbb} {p:Kbb→Bool} {i:Nat} {x:Kbb} (hx:l[i]?=some x):(l.take (i+1)).filter p=(l.take i).filter p++(bif p x then [x] else []):=by
 rw [take_succ hx,List.filter_append]
 congr 1
theorem mem_take {α:Type} {l:List α} {i:Nat} {x:α} (h:x∈l.take i):x∈l:=(List.take_sublist i l).subset h
theorem upTo_ok {d:Kba} {l:List Kbb} (hl:AllV l) (hlen:l.length≤1000) (z:Int) {al:BagT} (hb:BagOk al) :
  ∃ n al',Keq d l z al=some (n,al')∧RN n al' (runA (A0 d) (l.filter fun s=>decide (s.At≤z))) l.length:=by
 obtain ⟨n0,h0,h1⟩:=newNet_ok d hb
 have key:Ok (Keq d l z al) fun r=>RN r.1 r.2 (runA (A0 d) (l.filter fun s=>decide (s.At≤z))) l.length:=by
  unfold Keq
  refine ok_eq h0 ?_
  refine ok_bi (ok_rangeF (fun i (st:BagT×(List (Str×Bool))×(List (Str×Nat))×(List (Str×Kbe))×(List (Str×(Tl Kbf)))×(List Str)×(List Kaz)×Int×Bool)=>RN ⟨⟨st.2.2.2.2.2.1,st.2.2.2.2.2.2.1,st.2.2.2.2.2.2.2.1,st.2.2.2.2.2.2.2.2⟩,st.2.1,st.2.2.1,st.2.2.2.1,st.2.2.2.2.1⟩ st.1 (runA (A0 d) ((l.take i).filter fun s=>decide (s.At≤z))) i) h1 fun i x st hx hI=>?_) fun st hst=>ok_some ?_
  ·have hi:i<l.length:=(List.getElem?_eq_some_iff.1 hx).1
   have hf:=filter_take (p:=fun s:Kbb=>decide (s.At≤z)) hx
   refine ok_bif (fun hz=>?_) fun hz=>ok_some ?_
   ·obtain ⟨n',al',e1,e2⟩:=follow_ok (s:=x) hI (run_inv (A0_inv d) fun s hs=>hl s (mem_take (List.mem_filter.1 hs).1)) (hl x (List.mem_of_getElem? hx)) (by omega)
    refine ok_eq e1 (ok_some ?_)
    rw [hf,hz,cond_true,runA_snoc]
    exact e2
   ·rw [hf,hz,cond_false,List.append_nil]
    exact hI.up (by omega)
  ·have:=hst
   rw [List.take_length] at this
   exact this
 obtain ⟨⟨n,al'⟩,h2,h3⟩:=key
 exact ⟨n,al',h2,h3⟩
theorem refused_ok {k:Nat} {d:Kba} {l:List Kbb} (hl:AllV l) (hlen:l.length≤1000) {al:BagT} (hb:BagOk al) (hf:Kds k d l=some 0) :
  ∃ al',Kem k d l al=some (rfA (A0 d) 0 l,0,al')∧BagOk al':=by
 obtain ⟨n0,h0,h1⟩:=newNet_ok d hb
 have key:Ok (Kem k d l al) fun r=>r.1=rfA (A0 d) 0 l∧r.2.1=0∧BagOk r.2.2:=by
  unfold Kem
  refine ok_eq hf ?_
  simp only [bne_self_eq_false,cond_false]
  refine ok_eq h0 ?_
  refine ok_bi (ok_rangeF (fun i (st:BagT×(List (Str×Bool))×(List (Str×Nat))×(List (Str×Kbe))×(List (Str×(Tl Kbf)))×(List Str)×(List Kaz)×Int×Bool×(List Kbh))=>RN ⟨⟨st.2.2.2.2.2.1,st.2.2.2.2.2.2.1,st.2.2.2.2.2.2.2.1,st.2.2.2.2.2.2.2.2.1⟩,st.2.1,st.2.2.1,st.2.2.2.1,st.2.2.2.2.1⟩ st.1 (runA (A0 d) (l.take i)) i∧st.2.2.2.2.2.2.2.2.2=rfA (A0 d) 0 (l.take i)) ⟨h1,rfl⟩ fun i x st hx hI=>?_) fun st hst=>ok_some ?_
  ·have hi:i<l.length:=(List.getElem?_eq_some_iff.1 hx).1
   obtain ⟨n',al',e1,e2⟩:=follow_ok (s:=x) hI.1 (run_inv (A0_inv d) fun s hs=>hl s (mem_take hs)) (hl x (List.mem_of_getElem? hx)) (by omega)
   refine ok_eq e1 ?_
   have hr:=rfA_snoc x (l.take i) (A0 d) 0
   have ht:(l.take i).length=i:=by rw [List.length_take]; omega
   rw [←take_succ hx,ht,Nat.zero_add] at hr
   have hlr:=rfA_len (l.take i) (A0 d) 0
   refine ok_bif (fun hz=>?_) fun hz=>ok_some ⟨?_,?_⟩
   ·rw [hI.2]
    refine ok_app (by simp only [List.length_cons,List.length_nil]; omega) (ok_some ⟨?_,?_⟩)
    ·rw [take_succ hx,runA_snoc]; exact e2
    ·rw [hr,hz]; rfl
   ·rw [take_succ hx,runA_snoc]; exact e2
   ·rw [hr,hz,hI.2,cond_false,List.append_nil]
  ·rw [List.take_length] at hst
   exact ⟨hst.2,rfl,hst.1.bag⟩
 obtain ⟨⟨o,e,al'⟩,h2,rfl,rfl,h3⟩:=key
 exact ⟨al',h2,h3⟩
def Srt (l:List Kbb):Prop:=l.Pairwise fun a b=>a.At≤b.At
theorem filter_stop {l:List Kbb} {z:Int} {i:Nat} {x:Kbb} (hs:Srt l) (hx:l[i]?=some x) (hz:x.At>z) (hf:(l.take i).filter (fun s=>decide (s.At≤z))=l.take i):l.filter (fun s=>decide (s.At≤z))=l.take i:=by
 have h1:l.take i++l.drop i=l:=List.take_append_drop i l
 have hd:(l.drop i).filter (fun s=>decide (s.At≤z))=[]:=by
  rw [List.filter_eq_nil_iff]
  intro y hy
  obtain ⟨j,hj⟩:=List.getElem?_of_mem hy
  rw [List.getElem?_drop] at hj
  by_cases h0:j=0
  ·subst h0
   rw [Nat.add_zero,hx] at hj
   cases hj
   simp; omega
  ·have:=pw_ne hs (show i<i+j by omega) hx hj
   simp; omega
 conv=>lhs; rw [←h1]
 rw [List.filter_append,hf,hd,List.append_nil]
theorem behind_ok {d:Kba} {l:List Kbb} (hl:AllV l) (hlen:l.length≤1000) (hs:Srt l) (z:Int) {al:BagT} (hb:BagOk al) :
  ∃ v al',Kfi d l z al=some (v,rfA (A0 d) 0 (l.filter fun s=>decide (s.At≤z)),al')∧RH v al' (runA (A0 d) (l.filter fun s=>decide (s.At≤z))) l.length:=by
 have key:Ok (Kfi d l z al) fun r=>r.2.1=rfA (A0 d) 0 (l.filter fun s=>decide (s.At≤z))∧RH r.1 r.2.2 (runA (A0 d) (l.filter fun s=>decide (s.At≤z))) l.length:=by
  unfold Kfi
  refine ok_eq (show Kev d=some _ from rfl) ?_
  refine ok_bi (ok_rangeM (fun i (st:BagT×(List (Str×Nat))×(List (Str×Nat))×(List (Str×Bool))×(List (Str×Vl))×(List Str)×(List Kaz)×Int×Bool×(List Kbh))=>RH ⟨⟨st.2.2.2.2.2.1,st.2.2.2.2.2.2.1,st.2.2.2.2.2.2.2.1,st.2.2.2.2.2.2.2.2.1⟩,st.2.1,st.2.2.1,st.2.2.2.1,st.2.2.2.2.1⟩ st.1 (runA (A0 d) (l.take i)) i∧st.2.2.2.2.2.2.2.2.2=rfA (A0 d) 0 (l.take i)∧(l.take i).filter (fun s=>decide (s.At≤z))=l.take i)
   (fun (st:BagT×(List (Str×Nat))×(List (Str×Nat))×(List (Str×Bool))×(List (Str×Vl))×(List Str)×(List Kaz)×Int×Bool×(List Kbh))=>RH ⟨⟨st.2.2.2.2.2.1,st.2.2.2.2.2.2.1,st.2.2.2.2.2.2.2.1,st.2.2.2.2.2.2.2.2.1⟩,st.2.1,st.2.2.1,st.2.2.2.1,st.2.2.2.2.1⟩ st.1 (runA (A0 d) (l.filter fun s=>decide (s.At≤z))) l.length∧st.2.2.2.2.2.2.2.2.2=rfA (A0 d) 0 (l.filter fun s=>decide (s.At≤z)))
   ⟨house0 d hb,rfl,rfl⟩ fun i x st hx hI=>?_) fun q hq=>?_
  ·have hi:i<l.length:=(List.getElem?_eq_some_iff.1 hx).1
   refine ok_bif (fun hz=>ok_some ?_) fun hz=>?_
   ·have hst:=filter_stop hs hx (of_decide_eq_true hz) hI.2.2
    simp only
    rw [hst]
    exact ⟨hI.1.up (by omega),hI.2.1⟩
   ·obtain ⟨v',al',e1,e2⟩:=do_ok (s:=x) hI.1 (run_inv (A0_inv d) fun s hs=>hl s (mem_take hs)) (hl x (List.mem_of_getElem? hx)) (by omega)
    refine ok_eq e1 ?_
    have hr:=rfA_snoc x (l.take i) (A0 d) 0
    have ht:(l.take i).length=i:=by rw [List.length_take]; omega
    rw [←take_succ hx,ht,Nat.zero_add] at hr
    have hlr:=rfA_len (l.take i) (A0 d) 0
    have hf2:(l.take (i+1)).filter (fun s=>decide (s.At≤z))=l.take (i+1):=by
     rw [filter_take hx,hI.2.2,take_succ hx]
     have:decide (x.At≤z)=true:=by have:=of_decide_eq_false hz; simp; omega
     rw [this]; rfl
    refine ok_bif (fun hz=>?_) fun hz=>ok_some ⟨?_,?_,hf2⟩
    ·rw [hI.2.1]
     refine ok_app (by simp only [List.length_cons,List.length_nil]; omega) (ok_some ⟨?_,?_,hf2⟩)
     ·rw [take_succ hx,runA_snoc]; exact e2
     ·rw [hr,hz]; rfl
    ·rw [take_succ hx,runA_snoc]; exact e2
    ·rw [hr,hz,hI.2.1,cond_false,List.append_nil]
  ·cases q with
   | out st=>exact ok_some ⟨hq.2,hq.1⟩
   | go st=>
    simp only [List.take_length] at hq
    refine ok_some ⟨?_,?_⟩
    ·rw [hq.2.2]; exact hq.2.1
    ·rw [hq.2.2]; exact hq.1
 obtain ⟨⟨v,o,al'⟩,h2,rfl,h3⟩:=key
 exact ⟨v,al',h2,h3⟩
end Go.Gk
