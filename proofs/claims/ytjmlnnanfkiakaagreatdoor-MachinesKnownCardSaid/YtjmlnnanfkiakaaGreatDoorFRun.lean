import Derived.Test.YtjmlnnanfkiakaaGreatDoorFHouse3
set_option linter.all false
set_option maxRecDepth 100000
namespace Go.Gk
def A0(d:Lbx):Ab:=⟨d,[],[],[],[]⟩
def runA(A:Ab)(l:List Lby):Ab:=l.foldl (fun A s=>(stepA A s).2) A
def rfA:Ab→Nat→List Lby→List Lch
 | _,_,[]=>[]
 | A,i,s :: l=>(bif (stepA A s).1 != 0 then[⟨(i:Int),(stepA A s).1⟩] else[])++rfA (stepA A s).2 (i+1) l
theorem Kbw(A:Ab)(l:List Lby)(s:Lby):runA A (l++[s])=(stepA (runA A l) s).2:=by
 unfold runA;rw[List.foldl_append];rfl
theorem Kbx(s:Lby):∀ (l:List Lby) (A:Ab) (i:Nat),rfA A i (l++[s])=rfA A i l++(bif (stepA (runA A l) s).1 != 0 then[⟨((i+l.length:Nat):Int),(stepA (runA A l) s).1⟩] else[])
 | [],A,i=>by simp only[List.nil_append,rfA,List.append_nil,List.length_nil,Nat.add_zero];rfl
 | x :: l,A,i=>by
  simp only[List.cons_append,rfA,Kbx s l,List.append_assoc,List.length_cons]
  have e:i+1+l.length=i+(l.length+1):=by omega
  rw[e];rfl
theorem Kby:∀ (l:List Lby) (A:Ab) (i:Nat),(rfA A i l).length≤l.length
 | [],A,i=>by simp[rfA]
 | x :: l,A,i=>by
  have:=Kby l (stepA A x).2 (i+1)
  simp only[rfA,List.length_append,List.length_cons]
  cases ((stepA A x).1 != 0)<;>simp<;>omega
theorem Kbz(A:Ab)(l:List Lby):(runA A l).d=A.d:=by
 unfold runA
 induction l generalizing A with
 | nil=>rfl
 | cons x l ih=>rw[List.foldl_cons,ih,Kaz]
theorem A0_inv(d:Lbx):AInv (A0 d):=⟨fun k p h=>(by cases h),fun k m h=>(by cases h),SM.nil,SM.nil,SM.nil,SM.nil,fun k=>rfl⟩
abbrev AllV(l:List Lby):Prop:=∀ s∈l,StepV s
theorem Kca{A:Ab}(hI:AInv A):∀ {l:List Lby},AllV l→AInv (runA A l)
 | [],_=>hI
 | x :: l,h=>Kca (Kay hI (h x List.mem_cons_self)) fun s hs=>h s (List.mem_cons_of_mem _ hs)
theorem Kcb(d:Lbx){al:BagT}(hb:BagOk al):∃ n,Ler d=some n∧RN n al (A0 d) 0:=by
 have key:Ok (rangeF (σ:=List (Str×Bool)) (fun i1 x3 s2=>some (mSet s2 x3 true)) 0 d.Users ([]:List (Str×Bool))) fun m=>∀ u,(mGet m u).getD false=d.Users.any fun x=>u==x:=by
  refine Lae (Lah (fun i m=>∀ u,(mGet m u).getD false=(d.Users.take i).any fun x=>u==x) (fun u=>by simp[mGet]) fun i x m hx hI=>Lab fun u=>?_) fun m hm=>by simpa using hm
  rw[Kwv,Kzy hx,List.any_append]
  simp only[List.any_cons,List.any_nil,Bool.or_false]
  cases hu:u==x with
  | true=>simp
  | false=>simpa using hI u
 obtain⟨m,h1,h2⟩:=key
 refine⟨⟨d,m,[],[],[]⟩,by unfold Ler;rw[h1];rfl,⟨hb,rfl,h2,HOk.nil,rfl,rfl,⟨SM.nil,(fun k s h=>by cases h),(fun k k' s s' h=>by cases h)⟩,rfl⟩⟩
theorem Lmk(d:Lbx){al:BagT}(hb:BagOk al):RH ⟨d,[],[],[],[]⟩ al (A0 d) 0:=
 ⟨hb,rfl,HOk.nil,rfl,HOk.nil,rfl,fun k=>rfl,SM.nil,HOk.nil,(fun k w h=>by cases h),rfl⟩
theorem Kcc{l:List Lby}{p:Lby→Bool}{i:Nat}{x:Lby}(hx:l[i]?=some x):(l.take (i+1)).filter p=(l.take i).filter p++(bif p x then[x] else[]):=by
 rw[Kzy hx,List.filter_append]
 congr 1
theorem Kcd{α:Type}{l:List α}{i:Nat}{x:α}(h:x∈l.take i):x∈l:=(List.take_sublist i l).subset h
theorem Kce{d:Lbx}{l:List Lby}(hl:AllV l)(hlen:l.length≤1000)(z:Int){al:BagT}(hb:BagOk al) :
  ∃ n al',Lfk d l z al=some (n,al')∧RN n al' (runA (A0 d) (l.filter fun s=>decide (s.At≤z))) l.length:=by
 obtain⟨n0,h0,h1⟩:=Kcb d hb
 have key:Ok (Lfk d l z al) fun r=>RN r.1 r.2 (runA (A0 d) (l.filter fun s=>decide (s.At≤z))) l.length:=by
  unfold Lfk
  refine Lad h0 ?_
  refine Lac (Lah (fun i (st:BagT×(List (Str×Bool))×(List (Str×Nat))×(List (Str×Lcb))×(List (Str×(Tl Lcc)))×(List Str)×(List Lbw)×Int×Bool)=>RN ⟨⟨st.2.2.2.2.2.1,st.2.2.2.2.2.2.1,st.2.2.2.2.2.2.2.1,st.2.2.2.2.2.2.2.2⟩,st.2.1,st.2.2.1,st.2.2.2.1,st.2.2.2.2.1⟩ st.1 (runA (A0 d) ((l.take i).filter fun s=>decide (s.At≤z))) i) h1 fun i x st hx hI=>?_) fun st hst=>Lab ?_
  ·have hi:i<l.length:=(List.getElem?_eq_some_iff.1 hx).1
   have hf:=Kcc (p:=fun s:Lby=>decide (s.At≤z)) hx
   refine Laf (fun hz=>?_) fun hz=>Lab ?_
   ·obtain⟨n',al',e1,e2⟩:=Kbv (s:=x) hI (Kca (A0_inv d) fun s hs=>hl s (Kcd (List.mem_filter.1 hs).1)) (hl x (List.mem_of_getElem? hx)) (by omega)
    refine Lad e1 (Lab ?_)
    rw[hf,hz,cond_true,Kbw]
    exact e2
   ·rw[hf,hz,cond_false,List.append_nil]
    exact hI.up (by omega)
  ·have:=hst
   rw[List.take_length] at this
   exact this
 obtain⟨⟨n,al'⟩,h2,h3⟩:=key
 exact⟨n,al',h2,h3⟩
def Srt(l:List Lby):Prop:=l.Pairwise fun a b=>a.At≤b.At
theorem Kcf{l:List Lby}{z:Int}{i:Nat}{x:Lby}(hs:Srt l)(hx:l[i]?=some x)(hz:x.At>z)(hf:(l.take i).filter (fun s=>decide (s.At≤z))=l.take i):l.filter (fun s=>decide (s.At≤z))=l.take i:=by
 have h1:l.take i++l.drop i=l:=List.take_append_drop i l
 have hd:(l.drop i).filter (fun s=>decide (s.At≤z))=[]:=by
  rw[List.filter_eq_nil_iff]
  intro y hy
  obtain⟨j,hj⟩:=List.getElem?_of_mem hy
  rw[List.getElem?_drop] at hj
  by_cases h0:j=0
  ·subst h0
   rw[Nat.add_zero,hx] at hj
   cases hj
   simp;omega
  have:=Kzq hs (show i<i+j by omega) hx hj
  simp;omega
 conv=>lhs;rw[←h1]
 rw[List.filter_append,hf,hd,List.append_nil]
theorem Kcg{d:Lbx}{l:List Lby}(hl:AllV l)(hlen:l.length≤1000)(hs:Srt l)(z:Int){al:BagT}(hb:BagOk al) :
  ∃ v al',Lgf d l z al=some (v,rfA (A0 d) 0 (l.filter fun s=>decide (s.At≤z)),al')∧RH v al' (runA (A0 d) (l.filter fun s=>decide (s.At≤z))) l.length:=by
 have key:Ok (Lgf d l z al) fun r=>r.2.1=rfA (A0 d) 0 (l.filter fun s=>decide (s.At≤z))∧RH r.1 r.2.2 (runA (A0 d) (l.filter fun s=>decide (s.At≤z))) l.length:=by
  unfold Lgf
  refine Lad (show Lft d=some _ from rfl) ?_
  refine Lac (Laj (fun i (st:BagT×(List (Str×Nat))×(List (Str×Nat))×(List (Str×Bool))×(List (Str×Vl))×(List Str)×(List Lbw)×Int×Bool×(List Lch))=>RH ⟨⟨st.2.2.2.2.2.1,st.2.2.2.2.2.2.1,st.2.2.2.2.2.2.2.1,st.2.2.2.2.2.2.2.2.1⟩,st.2.1,st.2.2.1,st.2.2.2.1,st.2.2.2.2.1⟩ st.1 (runA (A0 d) (l.take i)) i∧st.2.2.2.2.2.2.2.2.2=rfA (A0 d) 0 (l.take i)∧(l.take i).filter (fun s=>decide (s.At≤z))=l.take i)
   (fun (st:BagT×(List (Str×Nat))×(List (Str×Nat))×(List (Str×Bool))×(List (Str×Vl))×(List Str)×(List Lbw)×Int×Bool×(List Lch))=>RH ⟨⟨st.2.2.2.2.2.1,st.2.2.2.2.2.2.1,st.2.2.2.2.2.2.2.1,st.2.2.2.2.2.2.2.2.1⟩,st.2.1,st.2.2.1,st.2.2.2.1,st.2.2.2.2.1⟩ st.1 (runA (A0 d) (l.filter fun s=>decide (s.At≤z))) l.length∧st.2.2.2.2.2.2.2.2.2=rfA (A0 d) 0 (l.filter fun s=>decide (s.At≤z)))
   ⟨Lmk d hb,rfl,rfl⟩ fun i x st hx hI=>?_) fun q hq=>?_
  ·have hi:i<l.length:=(List.getElem?_eq_some_iff.1 hx).1
   refine Laf (fun hz=>Lab ?_) fun hz=>?_
   ·have hst:=Kcf hs hx (of_decide_eq_true hz) hI.2.2
    simp only
    rw[hst]
    exact⟨hI.1.up (by omega),hI.2.1⟩
   ·obtain⟨v',al',e1,e2⟩:=Kax (s:=x) hI.1 (Kca (A0_inv d) fun s hs=>hl s (Kcd hs)) (hl x (List.mem_of_getElem? hx)) (by omega)
    refine Lad e1 ?_
    have hr:=Kbx x (l.take i) (A0 d) 0
    have ht:(l.take i).length=i:=by rw[List.length_take];omega
    rw[←Kzy hx,ht,Nat.zero_add] at hr
    have hlr:=Kby (l.take i) (A0 d) 0
    have hf2:(l.take (i+1)).filter (fun s=>decide (s.At≤z))=l.take (i+1):=by
     rw[Kcc hx,hI.2.2,Kzy hx]
     have:decide (x.At≤z)=true:=by have:=of_decide_eq_false hz;simp;omega
     rw[this];rfl
    refine Laf (fun hz=>?_) fun hz=>Lab ⟨?_,?_,hf2⟩
    ·rw[hI.2.1]
     refine Lam (by simp only[List.length_cons,List.length_nil];omega) (Lab ⟨?_,?_,hf2⟩)
     ·rw[Kzy hx,Kbw];exact e2
     ·rw[hr,hz];rfl
    ·rw[Kzy hx,Kbw];exact e2
    ·rw[hr,hz,hI.2.1,cond_false,List.append_nil]
  ·cases q with
   | out st=>exact Lab ⟨hq.2,hq.1⟩
   | go st=>
    simp only[List.take_length] at hq
    refine Lab ⟨?_,?_⟩
    ·rw[hq.2.2];exact hq.2.1
    ·rw[hq.2.2];exact hq.1
 obtain⟨⟨v,o,al'⟩,h2,rfl,h3⟩:=key
 exact⟨v,al',h2,h3⟩
end Go.Gk
