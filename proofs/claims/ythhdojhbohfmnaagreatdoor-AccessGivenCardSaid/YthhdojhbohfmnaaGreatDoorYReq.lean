import Derived.Test.YthhdojhbohfmnaaGreatDoorYDo
import Derived.Test.YthhdojhbohfmnaaGreatDoorTLoop
set_option linter.all false
set_option maxRecDepth 100000
namespace Go.Gk
theorem Ljl:∀ a b:Str,decide (Lib.compareBytes a b<0)=Op.bytesLess a b
 | [],[]=>rfl
 | [],_ :: _=>rfl
 | _ :: _,[]=>rfl
 | a :: x,b :: y=>by
  unfold Lib.compareBytes Op.bytesLess
  by_cases h1:a<b
  ·simp[h1]
  by_cases h2:b<a
  ·have hne:(a==b)=false:=by
    rw[beq_eq_false_iff_ne]
    intro e
    subst e
    exact h1 h2
   simp[h1,h2,hne]
  have he:a=b:=UInt8.le_antisymm (UInt8.not_lt.1 h2) (UInt8.not_lt.1 h1)
  subst he
  simp[h1,Ljl x y]
theorem Ljm(a b:Str)(h:Op.bytesLess a b=true):Op.bytesLess b a=false:=by
 cases h2:Op.bytesLess b a with
 | false=>rfl
 | true=>have:=Ktq _ _ _ h h2;rw[Ktp] at this;cases this
theorem Ljn(a b c:Str)(h1:Op.bytesLess a b=false)(h2:Op.bytesLess b c=false):Op.bytesLess a c=false:=by
 cases h3:Op.bytesLess a c with
 | false=>rfl
 | true=>
  cases h4:Op.bytesLess b a with
  | true=>have:=Ktq _ _ _ h4 h3;rw[h2] at this;cases this
  | false=>
   have:=Ktr _ _ h1 h4
   subst this
   rw[h2] at h3;cases h3
theorem Ljo:∀ a b:Str,decide (a≤b)=!Op.bytesLess b a
 | [],b=>by
  have h1:([]:Str)≤b:=List.nil_le b
  rw[dT h1]
  cases b<;>rfl
 | a :: x,[]=>by
  have h1:¬ (a :: x≤([]:Str)):=by simp
  rw[dF h1];rfl
 | a :: x,b :: y=>by
  have ih:=Ljo x y
  unfold Op.bytesLess
  rw[Bool.eq_iff_iff]
  have ih':x≤y ↔ Op.bytesLess y x=false:=by
   rw[←decide_eq_true_iff (p:=x≤y),ih];simp
  rw[decide_eq_true_iff,List.cons_le_cons_iff]
  by_cases h1:a<b
  ·have h2:¬ b<a:=fun h=>by have:=UInt8.lt_trans h1 h;exact UInt8.lt_irrefl _ this
   have h3:(b==a)=false:=by
    rw[beq_eq_false_iff_ne];intro e;subst e;exact h2 h1
   simp[h1,h2,h3]
  by_cases h2:b<a
  ·have h3:¬ a=b:=by intro e;subst e;exact h1 h2
   simp[h1,h2,h3]
  have he:a=b:=UInt8.le_antisymm (UInt8.not_lt.1 h2) (UInt8.not_lt.1 h1)
  subst he
  simp[h1,ih']
theorem Ljp{V:Type}{m:List (Str×V)}(h:SM m):sortK m=m.map (·.1):=by
 unfold sortK
 refine List.mergeSort_of_pairwise ?_
 rw[List.pairwise_map]
 refine h.imp fun {a b} hab=>?_
 rw[Ljo,Ljm _ _ hab];rfl
theorem Ljq{V:Type}{m:List (Str×V)}{key:V→Str}(h:SM m)(hk:∀ e∈m,key e.2=e.1){r:List V}(hp:r.Perm (m.map (·.2)))(hs:r.Pairwise fun x y=>Op.bytesLess (key y) (key x)=false):r=m.map (·.2):=by
 have hm:(m.map (·.2)).Pairwise fun x y=>Op.bytesLess (key x) (key y)=true:=by
  rw[List.pairwise_map]
  refine List.Pairwise.imp_of_mem (fun {a b} ha hb hab=>?_) h
  rw[hk a ha,hk b hb]
  exact hab
 refine List.Perm.eq_of_pairwise (le:=fun x y=>Op.bytesLess (key y) (key x)=false) (fun a b ha hb h1 h2=>?_) hs (hm.imp fun hab=>Ljm _ _ hab) hp
 have hab:=Ktr _ _ h2 h1
 obtain⟨e,he,rfl⟩:=List.mem_map.1 (hp.mem_iff.1 ha)
 obtain⟨e',he',rfl⟩:=List.mem_map.1 hb
 rw[hk e he,hk e' he'] at hab
 have h3:=h.get (k:=e.1) (v:=e.2) he
 have h4:=h.get (k:=e'.1) (v:=e'.2) he'
 rw[hab,h4] at h3
 exact(oSi h3).symm
theorem Ljr:∀ a b:Str,Lib.compareBytes a b=0 ↔ a=b
 | [],[]=>by simp[Lib.compareBytes]
 | [],_ :: _=>by simp[Lib.compareBytes]
 | _ :: _,[]=>by simp[Lib.compareBytes]
 | a :: x,b :: y=>by
  unfold Lib.compareBytes
  by_cases h1:a<b
  ·simp only[h1,if_true]
   constructor
   ·intro h;cases h
   intro h;cases h;exact absurd h1 (UInt8.lt_irrefl _)
  by_cases h2:b<a
  ·simp only[h1,h2,if_true,if_false]
   constructor
   ·intro h;cases h
   intro h;cases h;exact absurd h2 (UInt8.lt_irrefl _)
  have he:a=b:=UInt8.le_antisymm (UInt8.not_lt.1 h2) (UInt8.not_lt.1 h1)
  subst he
  simp only[h1,if_false,Ljr x y]
  simp
def cI(x y:Int):Int:=if x<y then -1 else if x>y then 1 else 0
theorem Lll(x y:Int):Kxk x y=some (cI x y):=by
 unfold Kxk Kxj cI
 simp only[bne_self_eq_false,bi_some,cond_false]
 by_cases h1:x<y
 ·rw[dT h1,if_pos h1];rfl
 rw[dF h1,if_neg h1]
 by_cases h2:x>y
 ·rw[dT h2,if_pos h2];rfl
 rw[dF h2,if_neg h2];rfl
theorem or3(x y z:Int):Kxl [x,y,z]=some (if x≠0 then x else if y≠0 then y else z):=by
 unfold Kxl
 by_cases hx:x=0
 ·subst hx
  by_cases hy:y=0
  ·subst hy
   by_cases hz:z=0
   ·subst hz;rfl
   have bz:(z != 0)=true:=by simpa using hz
   simp[rangeM,goI,bz]
  have by':(y != 0)=true:=by simpa using hy
  simp[rangeM,goI,by',hy]
 have bx:(x != 0)=true:=by simpa using hx
 simp[rangeM,goI,bx,hx]
theorem or2(x y:Int):Kxl [x,y]=some (if x≠0 then x else y):=by
 unfold Kxl
 by_cases hx:x=0
 ·subst hx
  by_cases hy:y=0
  ·subst hy;rfl
  have by':(y != 0)=true:=by simpa using hy
  simp[rangeM,goI,by']
 have bx:(x != 0)=true:=by simpa using hx
 simp[rangeM,goI,bx,hx]
theorem Ljs{α:Type}{cf:α→α→Option Int}{lt:α→α→Bool}{c:α→α→Int}(h1:∀ x y,cf x y=some (c x y))(h2:∀ x y,decide (c x y<0)=lt x y)(sy:∀ a b,lt a b=true→lt b a=false)(tr:∀ a b d,lt a b=false→lt b d=false→lt a d=false):CmpT cf∧∀ x y,ltO cf x y=lt x y:=by
 have e:∀ x y,ltO cf x y=lt x y:=fun x y=>by unfold ltO;rw[h1];exact h2 x y
 refine⟨⟨fun x y=>⟨_,h1 x y⟩,⟨fun x=>?_,fun x y z g1 g2=>?_,fun x y z g1 g2=>?_⟩⟩,e⟩
 ·rw[e]
  cases h:lt x x with
  | false=>rfl
  | true=>have:=sy _ _ h;rw[h] at this;cases this
 ·rw[e] at *
  cases h:lt x z with
  | true=>rfl
  | false=>
   have:=tr _ _ _ h (sy _ _ g2)
   rw[g1] at this;cases this
 rw[e] at *
 exact tr _ _ _ g1 g2
theorem Llm:CmpT (fun a b=>Kzc a b)∧∀ x y,ltO (fun a b=>Kzc a b) x y=Op.bytesLess x.Key y.Key:=
 Ljs (c:=fun x y=>Lib.compareBytes x.Key y.Key) (fun x y=>rfl) (fun x y=>Ljl _ _) (fun a b h=>Ljm _ _ h) (fun a b d h1 h2=>Ljn _ _ _ h1 h2)
def cFa(a b:Kwl):Int:=if Lib.compareBytes a.Node b.Node≠0 then Lib.compareBytes a.Node b.Node else Lib.compareBytes a.Posture b.Posture
def ltF(a b:Kwl):Bool:=Op.bytesLess a.Node b.Node||(decide (a.Node=b.Node)&&Op.bytesLess a.Posture b.Posture)
theorem cmpF(a b:Kwl):Kye a b=some (cFa a b):=by
 unfold Kye Ktk
 simp only[bi_some]
 rw[or2]
 rfl
theorem Lln(a b:Kwl):Kzf a b=some (cFa a b):=by
 unfold Kzf Ktk
 simp only[bi_some]
 rw[or2]
 rfl
theorem Ljt(a b:Kwl):decide (cFa a b<0)=ltF a b:=by
 unfold cFa ltF
 by_cases h3:a.Node=b.Node
 ·rw[if_neg (by simpa using (Ljr _ _).2 h3),Ljl,dT h3,h3,Ktp];rfl
 rw[if_pos (fun h=>h3 ((Ljr _ _).1 h)),Ljl,dF h3];simp
theorem Lju(a b:Kwl):cFa a b=0 ↔ a=b:=by
 unfold cFa
 by_cases h3:a.Node=b.Node
 ·rw[if_neg (by simpa using (Ljr _ _).2 h3),Ljr]
  constructor
  ·intro h4;cases a;cases b;simp_all
  intro h;rw[h]
 have h4:Lib.compareBytes a.Node b.Node≠0:=fun h=>h3 ((Ljr _ _).1 h)
 rw[if_pos h4]
 constructor
 ·intro h;exact absurd h h4
 intro h;exact absurd (by rw[h]) h3
theorem Ljv(a b:Kwl)(h:ltF a b=true):ltF b a=false:=by
 unfold ltF at *
 simp only[Bool.or_eq_true,Bool.and_eq_true,decide_eq_true_eq,Bool.or_eq_false_iff,Bool.and_eq_false_iff,decide_eq_false_iff_not] at *
 rcases h with h | ⟨h2,h⟩
 ·refine⟨Ljm _ _ h,.inl fun e=>?_⟩
  rw[e,Ktp] at h;cases h
 exact⟨by rw[h2,Ktp],.inr (Ljm _ _ h)⟩
theorem Ljw(a b c:Kwl)(h:ltF a b=false)(g:ltF b c=false):ltF a c=false:=by
 unfold ltF at *
 simp only[Bool.or_eq_false_iff,Bool.and_eq_false_iff,decide_eq_false_iff_not] at *
 obtain⟨h3,h4⟩:=h
 obtain⟨g3,g4⟩:=g
 refine⟨Ljn _ _ _ h3 g3,?_⟩
 by_cases e3:a.Node=c.Node
 ·have e4:a.Node=b.Node:=by
   refine Ktr _ _ h3 ?_
   rw[e3];exact g3
  have e5:b.Node=c.Node:=by rw[←e4];exact e3
  exact .inr (Ljn _ _ _ (h4.resolve_left (by simpa using e4)) (g4.resolve_left (by simpa using e5)))
 exact .inl e3
theorem Ljx(a b:Kwl)(h:ltF a b=false)(g:ltF b a=false):a=b:=by
 unfold ltF at *
 simp only[Bool.or_eq_false_iff,Bool.and_eq_false_iff,decide_eq_false_iff_not] at *
 have e:=Ktr _ _ h.1 g.1
 have e2:=Ktr _ _ (h.2.resolve_left (by simpa using e)) (g.2.resolve_left (by simpa using e.symm))
 cases a;cases b;simp_all
theorem Ljy(a:Kwl):ltF a a=false:=by
 cases h:ltF a a with
 | false=>rfl
 | true=>have:=Ljv _ _ h;rw[h] at this;cases this
theorem Llo:CmpT (fun a b=>Kye a b)∧∀ x y,ltO (fun a b=>Kye a b) x y=ltF x y:=Ljs (c:=cFa) (fun x y=>cmpF x y) Ljt Ljv Ljw
theorem Llp:CmpT (fun a b=>Kzf a b)∧∀ x y,ltO (fun a b=>Kzf a b) x y=ltF x y:=Ljs (c:=cFa) (fun x y=>Lln x y) Ljt Ljv Ljw
def SrF(l:List Kwl):Prop:=l.Pairwise fun x y=>ltF y x=false
theorem Ljz{a b:List Kwl}(ha:SrF a)(hb:SrF b)(hp:a.Perm b):a=b:=
 List.Perm.eq_of_pairwise (le:=fun x y=>ltF y x=false) (fun x y _ _ h1 h2=>Ljx _ _ h2 h1) ha hb hp
def srtF(l:List Kwl):List Kwl:=l.mergeSort fun x y=>!ltF y x
theorem Lka(l:List Kwl):SrF (srtF l):=by
 refine(List.pairwise_mergeSort (le:=fun x y=>!ltF y x) (fun a b c h1 h2=>?_) (fun a b=>?_) l).imp fun h=>by simpa using h
 ·simp only[Bool.not_eq_true'] at *
  exact Ljw _ _ _ h2 h1
 cases h:ltF b a with
 | false=>rfl
 | true=>simp[Ljv _ _ h]
theorem Lkb(l:List Kwl):(srtF l).Perm l:=List.mergeSort_perm _ _
theorem Llq{γ:Type}{l:List Kwl}{f:List Kwl→Option γ}{v:γ}(hl:l.length≤1000000)(h:f (srtF l)=some v):sortD (fun a b=>Kye a b) l f=some v:=
 Kpt Llo.1 (by omega) fun r hr=>by
  rw[Ljz (hr.srt.imp fun h=>by rw[←Llo.2];exact h) (Lka l) (hr.perm.trans (Lkb l).symm)]
  exact h
theorem Llr{γ:Type}{l:List Kwl}{f:List Kwl→Option γ}{v:γ}(hl:l.length≤1000000)(h:f (srtF l)=some v):sortD (fun a b=>Kzf a b) l f=some v:=
 Kpt Llp.1 (by omega) fun r hr=>by
  rw[Ljz (hr.srt.imp fun h=>by rw[←Llp.2];exact h) (Lka l) (hr.perm.trans (Lkb l).symm)]
  exact h
end Go.Gk
namespace Go.Gk
theorem Lkc{α β:Type}{f:α→List β→Option (List β)}(g:α→List β):∀ (L:List α) (s:List β),(∀ e∈L,(g e).length≤2∧∀ s,s.length≤4000000→f e s=some (s++g e))→s.length+2 * L.length≤4000000→rangeL f L s=some (s++L.flatMap g)
 | [],s,_,_=>by simp[rangeL]
 | e :: L,s,h,hl=>by
  simp only[List.length_cons] at hl
  obtain⟨h1,h2⟩:=h e mCs
  simp only[rangeL,h2 s (by omega),List.flatMap_cons]
  rw[Lkc g L _ (fun x hx=>h x (mCo _ hx)) (by rw[List.length_append];omega),List.append_assoc]
theorem Lkd{α β γ:Type}{f:α→List β→Option (List β)}(g:α→List β){m:List α}{k:List β→Option γ}{v:γ}(h:∀ e∈m,(g e).length≤2∧∀ s,s.length≤4000000→f e s=some (s++g e))(hl:m.length≤1000000)
  (hk:∀ r,r.Perm (m.flatMap g)→k r=some v):rangeD f m [] k=some v:=
 Kni fun m' hp=>⟨m'.flatMap g,by
  have:=Lkc (f:=f) g m' [] (fun e he=>h e (hp.mem_iff.1 he)) (by rw[hp.length_eq];simp;omega)
  simpa using this,hk _ (hp.flatMap_right g)⟩
def Inv1(S:SQ):Prop:=∀ k q,mGet S k=some q→q.key=k∧(q.den&&q.giv)=false
theorem Inv1.nil:Inv1 []:=fun k q h=>by cases h
theorem Lke{a:Kwg}{q q':Rq}(h:(stepQ a q).2=some q'):(q.waits a.At=true∧q'=agreeQ q a)∨(q.waits a.At=true∧q'=⟨q.key,q.wer,q.node,q.post,q.beg,q.long,q.acc,q.yes,true,q.giv,q.von,q.bis⟩)∨(q.giv=true∧a.At<q.bis∧q'=⟨q.key,q.wer,q.node,q.post,q.beg,q.long,q.acc,q.yes,q.den,q.giv,q.von,a.At⟩):=by
 unfold stepQ at h
 cases h2:(a.Kind:Int)==2<;>rw[h2] at h<;>simp only[cond_true,cond_false] at h
 ·cases h3:(a.Kind:Int)==3<;>rw[h3] at h<;>simp only[cond_true,cond_false] at h
  ·cases c1:(!q.giv||decide (a.At≥q.bis))<;>rw[c1] at h<;>simp only[cond_true,cond_false] at h
   ·cases c2:(!q.may a.By)<;>rw[c2] at h<;>simp only[cond_true,cond_false] at h
    ·rw[Bool.or_eq_false_iff] at c1
     have e:=of_decide_eq_false c1.2
     cases h
     exact .inr (.inr ⟨by simpa using c1.1,by omega,rfl⟩)
    cases h
   cases h
  cases c1:(!q.waits a.At)<;>rw[c1] at h<;>simp only[cond_true,cond_false] at h
  ·cases c2:(!q.may a.By)<;>rw[c2] at h<;>simp only[cond_true,cond_false] at h
   ·cases h;exact .inr (.inl ⟨by simpa using c1,rfl⟩)
   cases h
  cases h
 cases c1:(!q.waits a.At)<;>rw[c1] at h<;>simp only[cond_true,cond_false] at h
 ·cases c2:(!q.acc.Approvers.contains a.By||(a.By:Str)==q.wer)<;>rw[c2] at h<;>simp only[cond_true,cond_false] at h
  ·cases c3:q.yes.contains a.By<;>rw[c3] at h<;>simp only[cond_true,cond_false] at h
   ·cases h
    exact .inl ⟨by simpa using c1,rfl⟩
   cases h
  cases h
 cases h
theorem Lkf{q:Rq}{t:Int}(h:q.waits t=true):q.den=false∧q.giv=false:=by
 unfold Rq.waits at h
 simp only[Bool.and_eq_true,Bool.not_eq_true'] at h
 exact⟨h.1,h.2.1⟩
theorem Lkg(q:Rq)(a:Kwg):(agreeQ q a).key=q.key∧(agreeQ q a).den=q.den∧(agreeQ q a).node=q.node∧(agreeQ q a).post=q.post:=by
 unfold agreeQ
 cases ((q.yes++[a.By]).length:Int)==q.acc.Need<;>exact⟨rfl,rfl,rfl,rfl⟩
theorem Inv1.step{S:SQ}(h:Inv1 S)(R:List Kwf)(a:Kwg):Inv1 (stepS R a S).2:=by
 intro k q hq
 rcases Lko R a S with e | ⟨x,_,_,_,_,e⟩ | ⟨q0,q',_,e1,e2,e⟩
 ·rw[e] at hq;exact h k q hq
 ·rw[e,Kua] at hq
  split at hq
  ·rename_i g
   cases hq
   exact⟨(beq_iff_eq.1 g).symm,rfl⟩
  exact h k q hq
 rw[e,Kua] at hq
 split at hq
 ·rename_i g
  cases hq
  rw[beq_iff_eq.1 g]
  obtain⟨k1,k2⟩:=h _ _ e1
  rcases Lke e2 with⟨w,rfl⟩ | ⟨w,rfl⟩ | ⟨w,_,rfl⟩
  ·exact⟨(Lkg q0 a).1.trans k1,by rw[(Lkg q0 a).2.1,(Lkf w).1];rfl⟩
  ·exact⟨k1,by show(true&&q0.giv)=false;rw[(Lkf w).2];rfl⟩
  exact⟨k1,k2⟩
 exact h k q hq
theorem Inv1.run{R:List Kwf}:∀ (l:List Kwg) {S:SQ},Inv1 S→Inv1 (runS R l S)
 | [],S,h=>h
 | a :: l,S,h=>Inv1.run l (h.step R a)
theorem Lkh{R:List Kwf}{p:Str→Prop}:∀ (l:List Kwg) {S:SQ},(∀ a∈l,p a.Key)→(∀ e∈S,p e.1)→∀ e∈runS R l S,p e.1
 | [],S,_,h=>h
 | a :: l,S,hl,h=>Lkh l (fun x hx=>hl x (mCo _ hx)) (by
   have set:∀ (m:SQ) (q:Rq),(∀ e∈m,p e.1)→∀ e∈mSet m a.Key q,p e.1:=by
    intro m q hm e he
    unfold mSet at he
    split at he
    ·rcases List.mem_or_eq_of_mem_set he with h1 | rfl
     ·exact hm e h1
     exact hl a mCs
    have:=(Kkq a.Key q m).mem_iff.1 he
    simp only[List.mem_append,List.mem_singleton] at this
    rcases this with h1 | rfl
    ·exact hm e h1
    exact hl a mCs
   show ∀ e∈(stepS R a S).2,p e.1
   rcases Lko R a S with e | ⟨x,_,_,_,_,e⟩ | ⟨q0,q',_,e1,e2,e⟩<;>rw[e]
   ·exact h
   ·exact set _ _ h
   exact set _ _ h)
theorem Lki{R:List Kwf}:∀ (l:List Kwg) {S:SQ},(runS R l S).length≤S.length+l.length
 | [],S=>Nat.le_refl _
 | a :: l,S=>by
  have h1:=Lki (R:=R) l (S:=(stepS R a S).2)
  have set:∀ (m:SQ) (q:Rq),(mSet m a.Key q).length≤m.length+1:=by
   intro m q
   unfold mSet
   split
   ·simp
   rw[(Kkq a.Key q m).length_eq];simp
  have h2:(stepS R a S).2.length≤S.length+1:=by
   rcases Lko R a S with e | ⟨x,_,_,_,_,e⟩ | ⟨q0,q',_,e1,e2,e⟩<;>rw[e]
   ·omega
   ·exact set _ _
   exact set _ _
  simp only[List.length_cons]
  show(runS R l (stepS R a S).2).length≤_
  omega
def stQ(t:Int)(q:Rq):Int:=bif q.den then 3 else bif q.giv&&decide (t<q.bis) then 4 else bif q.giv then 5 else bif q.waits t then 1 else 2
def mkR(t:Int)(q:Rq):Kwk:=⟨q.key,q.wer,q.node,q.post,stQ t q,(q.yes.length:Int),q.von,q.bis⟩
def reqL(t:Int)(S:SQ):List Kwk:=S.map fun e=>mkR t e.2
section
variable{X:Type}{x0:X}{vw:X→Rq}{tg:X→Nat}{al:List Bool}{ar:List (Nat×X)}{m:List (Str×Nat)}{S:SQ}
theorem RX.ent(h:RX x0 vw tg al ar m S){e:Str×Nat}(he:e∈m):∃ x,hGet ar e.2=some x∧0<e.2∧(mGet m e.1).getD 0=e.2∧mGet S e.1=some (vw x):=by
 have hg:=h.h.sm.get (k:=e.1) (v:=e.2) he
 rcases h.at e.1 with⟨_,h2,_⟩ | ⟨a,x,h1,_,h3,h4,h5,h6⟩
 ·rw[hg] at h2;cases h2
 rw[hg] at h3
 cases h3
 exact⟨x,h5,h6,h4,h1⟩
theorem RX.list(h:RX x0 vw tg al ar m S){β:Type}(g:Rq→β):(S.map fun e=>g e.2)=m.map fun e=>g (vw ((hGet ar e.2).getD x0)):=by
 rw[h.s]
 unfold absH
 rw[List.map_map,List.map_map]
 rfl
theorem RX.len(h:RX x0 vw tg al ar m S):S.length=m.length:=by
 rw[h.s]
 unfold absH
 simp
end
section
variable{R:List Kwf}
theorem Lkj{al:List Bool}{ar:List (Nat×Kwj)}{ar2:List (Nat×Kwn)}{a:Nat}{x:Kwj}(h:hGet ar a=some x)(hp:0<a)(t:Int):Kyb a t (al,ar,ar2)=some (stQ t (vwP x)):=by
 unfold Kyb
 simp only[show Nat.blt 0 a=true by simpa [Nat.blt_eq] using hp,gd_true,h,bi_some,Lgk h hp]
 show _=some (bif x.denied then 3 else bif x.given&&decide (t<x.to) then 4 else bif x.given then 5 else bif (vwP x).waits t then 1 else 2)
 cases x.denied with
 | true=>rfl
 | false=>
  cases x.given with
  | true=>
   simp only[cond_false,cond_true,bi_some,Bool.true_and]
   cases decide (t<x.to)<;>rfl
  | false=>
   simp only[cond_false,bi_some,Bool.false_and]
   cases (vwP x).waits t<;>rfl
theorem Lkk{l:List Kwg}(hl:l.length≤800000)(hks:∀ a∈l,a.Key.length≤1000000){t:Int}{al:BagT}(hF:FrB al){k:Nat}(h0:Kxo k R l=some 0)(h1:Kxz t=some 0) :
  ∃ al',Kyc k R l t al=some (reqL t (stA R l t),0,al')∧FrB al':=by
 obtain⟨⟨a0,a1,a2⟩,m,e1,e2,e3⟩:=Lkt (R:=R) hl t hF
 have hI:Inv1 (stA R l t):=Inv1.run _ Inv1.nil
 have hlen:m.length≤800000:=by
  rw[←e2.len]
  refine Nat.le_trans (Lki _) ?_
  have:=List.length_filter_le (fun a:Kwg=>decide (a.At≤t)) l
  simp only[List.length_nil];omega
 refine⟨(a0,a1,a2),?_,e3⟩
 unfold Kyc
 rw[h0,bi_some]
 simp only[bne_self_eq_false,cond_false]
 rw[h1,bi_some]
 simp only[bne_self_eq_false,cond_false]
 rw[e1,bi_some]
 simp only
 have hkey:∀ e∈m,e.1.length≤1000000:=by
  have:=Lkh (R:=R) (p:=fun s=>s.length≤1000000) (l.filter fun a=>decide (a.At≤t)) (S:=[]) (fun a ha=>hks a (List.mem_filter.1 ha).1) (fun e he=>by cases he)
  intro e he
  obtain⟨x,_,_,_,hx⟩:=e2.ent he
  exact this _ (Ktw hx)
 have hgd:((decide (m.length≤4294967296))&&m.all (fun e=>decide (e.1.length≤4294967296)))=true:=by
  rw[Bool.and_eq_true,lAe]
  exact⟨dT (by omega),fun e he=>dT (by have:=hkey e he;omega)⟩
 rw[hgd,gd_true,Ljp e2.h.sm]
 have loop:∀ (L:List (Str×Nat)) (i:Nat) (acc:List Kwk),(∀ e∈L,e∈m)→acc.length+L.length≤4000000→
   rangeF (σ:=List Kwk) (fun i13 x15 s14=>gd (Nat.blt 0 ((mGet m x15).getD 0)) (bi (hGet a1 ((mGet m x15).getD 0)) fun m26=>gd (Nat.blt 0 ((mGet m x15).getD 0)) (bi (hGet a1 ((mGet m x15).getD 0)) fun m30=>gd (Nat.blt 0 ((mGet m x15).getD 0)) (bi (hGet a1 ((mGet m x15).getD 0)) fun m34=>bi (Kyb ((mGet m x15).getD 0) t (a0,a1,a2)) fun y36=>gd (Nat.blt 0 ((mGet m x15).getD 0)) (bi (hGet a1 ((mGet m x15).getD 0)) fun m40=>gd (Nat.blt 0 ((mGet m x15).getD 0)) (bi (hGet a1 ((mGet m x15).getD 0)) fun m44=>gd (Nat.blt 0 ((mGet m x15).getD 0)) (bi (hGet a1 ((mGet m x15).getD 0)) fun m48=>bi (apd s14 [(⟨x15,m26.asked.By,m30.asked.Node,m34.asked.Posture,y36,(m40.yes.2.length:Int),m44.v_from,m48.to⟩:Kwk)]) fun y50=>some y50))))))) i (L.map (·.1)) acc
    = some (acc++L.map fun e=>mkR t (vwP ((hGet a1 e.2).getD zP))):=by
  intro L
  induction L with
  | nil=>intro i acc _ _;simp[rangeF]
  | cons e L ih=>
   intro i acc hm hb
   simp only[List.length_cons] at hb
   obtain⟨x,x1,x2,x3,x4⟩:=e2.ent (hm e mCs)
   have hb0:Nat.blt 0 e.2=true:=by simpa [Nat.blt_eq] using x2
   have hkx:x.asked.Key=e.1:=(hI _ _ x4).1
   simp only[List.map_cons,rangeF,x3,hb0,gd_true,x1,bi_some,Lkj x1 x2]
   rw[Kux (by simp;omega),bi_some,bi_some,ih (i+1) _ (fun y hy=>hm y (mCo _ hy)) (by simp;omega)]
   rw[←hkx,List.append_assoc]
   rfl
 rw[loop m 0 [] (fun e he=>he) (by simp;omega)]
 rw[←e2.list (mkR t)]
 rfl
theorem Lkl{t:Int}{x:Kwn}(h:((vwW R x).den&&(vwW R x).giv)=false):(bi (bif x.given then some (decide ((t:Int)<x.Request.To)) else some false) fun q41=>bif q41 then(some 4) else bif x.given then(some 5) else bif x.denied then(some 3) else bif decide ((t:Int)<(wi (x.asked+((accF R x.Request.Posture).getD zAcc).Wait))) then(some 1) else(some 2))=some (stQ t (vwW R x)):=by
 show _=some (bif x.denied then 3 else bif x.given&&decide (t<x.Request.To) then 4 else bif x.given then 5 else bif (!x.denied&&(!x.given&&decide (t<wi (x.asked+((accF R x.Request.Posture).getD zAcc).Wait)))) then 1 else 2)
 have h':(x.denied&&x.given)=false:=h
 cases hd:x.denied<;>cases hg:x.given
 ·simp only[cond_false,bi_some,Bool.not_false,Bool.true_and,Bool.false_and]
  cases decide (t<wi (x.asked+((accF R x.Request.Posture).getD zAcc).Wait))<;>rfl
 ·simp only[cond_false,cond_true,bi_some,Bool.true_and]
  cases decide (t<x.Request.To)<;>rfl
 ·rfl
 rw[hd,hg] at h';cases h'
theorem Lkm{l:List Kwg}(hl:l.length≤800000)(hk:Kd l)(hr:Rise l)(t:Int){al:BagT}(hF:FrB al) :
  ∃ al',Kzd R l t al=some (reqL t (stA R l t),al')∧FrB al':=by
 obtain⟨⟨a0,a1,a2⟩,m,e1,e2,e3⟩:=Lku (R:=R) hl hk hr t hF
 have hI:Inv1 (stA R l t):=Inv1.run _ Inv1.nil
 have hlen:m.length≤800000:=by
  rw[←e2.len]
  refine Nat.le_trans (Lki _) ?_
  have:=List.length_filter_le (fun a:Kwg=>decide (a.At≤t)) l
  simp only[List.length_nil];omega
 refine⟨(a0,a1,a2),?_,e3⟩
 unfold Kzd
 rw[e1,bi_some]
 simp only
 refine Lkd (fun e=>[mkR t (vwW R ((hGet a2 e.2).getD zW))]) (fun e he=>⟨by simp,fun s hs=>?_⟩) (by omega) fun r hp=>?_
 ·obtain⟨x,x1,x2,x3,x4⟩:=e2.ent he
  have hb0:Nat.blt 0 e.2=true:=by simpa [Nat.blt_eq] using x2
  simp only[hb0,gd_true,x1,bi_some,Llf,Option.getD_some]
  rw[Lkl (hI _ _ x4).2,bi_some,Kux (by simp;omega),bi_some]
  rfl
 ·have hr2:r.Perm (reqL t (stA R l t)):=by
   refine hp.trans ?_
   unfold reqL
   rw[e2.list (mkR t)]
   rw[←List.map_eq_flatMap]
  have hlr:r.length≤800000:=by rw[hr2.length_eq];unfold reqL;rw[List.length_map,e2.len];exact hlen
  refine Kpt Llm.1 (by omega) fun y hy=>?_
  rw[show decide (y.length=r.length)=true from dT hy.length,gd_true]
  have:y=reqL t (stA R l t):=by
   have hm:SM ((stA R l t).map fun e=>(e.1,mkR t e.2)):=SM.map (f:=mkR t) e2.sm
   have e0:reqL t (stA R l t)=((stA R l t).map fun e=>(e.1,mkR t e.2)).map (·.2):=by unfold reqL;rw[List.map_map];rfl
   rw[e0]
   refine Ljq (key:=fun r:Kwk=>r.Key) hm (fun e he=>?_) ?_ (hy.srt.imp fun h=>by rw[←Llm.2];exact h)
   ·obtain⟨e',he',rfl⟩:=List.mem_map.1 he
    exact(hI _ _ (e2.sm.get (k:=e'.1) (v:=e'.2) he')).1
   ·rw[←e0];exact hy.perm.trans hr2
  rw[this]
end
end Go.Gk
namespace Go.Gk
def eqFa(x y:Kwl):Bool:=((x.Node:Str)==y.Node)&&(((x.Posture:Str)==y.Posture)&&true)
theorem Lfx(x y:Kwl):eqFa x y=decide (x=y):=by
 unfold eqFa
 by_cases e:x=y
 ·subst e;simp
 rw[dF e,←Bool.not_eq_true]
 intro h
 simp only[Bool.and_true,Bool.and_eq_true,beq_iff_eq] at h
 exact e (by cases x;cases y;simp_all)
def fd(s:List Kwl):Nat→List Kwl
 | 0=>[]
 | m+1=>if 0<m∧s[m]?=s[m - 1]? then fd s m else fd s m++(s[m]?).toList
theorem Lfy(s:List Kwl):∀ m,(fd s m).length≤m
 | 0=>Nat.le_refl _
 | m+1=>by
  have:=Lfy s m
  unfold fd
  split
  ·omega
  rw[List.length_append]
  have:(s[m]?).toList.length≤1:=by cases s[m]?<;>simp
  omega
theorem Lfz(s:List Kwl)(x:Kwl):∀ m,m≤s.length→(x∈fd s m ↔ x∈s.take m)
 | 0,_=>by simp[fd]
 | m+1,h=>by
  have ih:=Lfz s x m (by omega)
  have hm:=gGe (show m<s.length by omega)
  have e:fd s (m+1)=if 0<m∧s[m]?=s[m - 1]? then fd s m else fd s m++(s[m]?).toList:=rfl
  rw[List.take_add_one,List.mem_append,←ih,e]
  split
  ·rename_i hd
   refine⟨fun h=>.inl h,fun h=>h.elim id fun h=>?_⟩
   rw[hd.2] at h
   have h1:s[m - 1]?=some x:=by simpa using h
   rw[ih]
   refine mOg (i:=m - 1) ?_
   rw[List.getElem?_take_of_lt (by omega)]
   exact h1
  rw[List.mem_append]
theorem Lga(s:List Kwl)(hs:SrF s):∀ m,m≤s.length→(fd s m).Pairwise fun x y=>ltF x y=true
 | 0,_=>List.Pairwise.nil
 | m+1,h=>by
  have ih:=Lga s hs m (by omega)
  unfold fd
  split
  ·exact ih
  rename_i hd
  have hm:=gGe (show m<s.length by omega)
  rw[hm]
  refine List.pairwise_append.2 ⟨ih,List.pairwise_singleton ..,fun x hx y hy=>?_⟩
  simp only[Option.toList_some,List.mem_singleton] at hy
  subst hy
  have hx:=(Lfz s x m (by omega)).1 hx
  obtain⟨j,hj⟩:=List.getElem?_of_mem hx
  have hjm:j<m:=by have:=(gEs.1 hj).1;simp at this;omega
  rw[List.getElem?_take_of_lt hjm] at hj
  have hjl:j<s.length:=by omega
  have e1:s[j]=x:=by rw[gGe hjl] at hj;exact oSi hj
  have hpw:=List.pairwise_iff_getElem.1 hs
  have l1:ltF s[m - 1] s[j]=false:=by
   by_cases e:j=m - 1
   ·subst e;exact Ljy _
   exact hpw j (m - 1) _ (by omega) (by omega)
  have l2:ltF s[m] s[m - 1]=false:=hpw (m - 1) m _ (by omega) (by omega)
  have hne:s[m]≠s[m - 1]:=fun e=>hd ⟨by omega,by rw[hm,gGe (by omega),e]⟩
  subst e1
  cases hl:ltF s[j] s[m] with
  | true=>rfl
  | false=>
   have h3:ltF s[j] s[m - 1]=false:=Ljw _ _ _ hl l2
   have h4:s[j]=s[m - 1]:=Ljx _ _ h3 l1
   have h5:ltF s[m - 1] s[m]=false:=by rw[←h4];exact hl
   exact absurd (Ljx _ _ l2 h5) hne
theorem Lgb(k:Nat)(s:List Kwl)(hk:s.length+2≤k)(hl:s.length≤4294967296):Kyf k s=some (fd s s.length):=by
 unfold Kyf
 by_cases h2:s.length<2
 ·rw[dT (by omega)]
  simp only[cond_true]
  match s,h2 with
  | [],_=>rfl
  | [x],_=>rfl
 rw[dF (by omega)]
 simp only[cond_false]
 refine Kvf (I:=fun i:Int=>1≤i∧i≤s.length∧fd s i.toNat=s.take i.toNat) (μ:=fun i=>(s.length - i.toNat)) (Q:=fun r=>r=.inl ()∧fd s s.length=s∨r=.inr (fd s s.length)) ?_ ⟨by omega,by omega,?_⟩ (by simp;omega) ?_
 ·rintro i ⟨h1,hi,hd⟩
  by_cases hlt:i<s.length
  ·rw[dT hlt]
   simp only[cond_true]
   obtain⟨j,rfl⟩:=Int.eq_ofNat_of_zero_le (show 0≤i by omega)
   simp only[Int.toNat_natCast] at hd ⊢
   have hj:j<s.length:=by omega
   have w1:wi ((j:Int) - 1)=((j - 1:Nat):Int):=by rw[Kuq (by omega) (by omega)];omega
   have w2:wi ((j:Int)+1)=((j+1:Nat):Int):=by rw[Kuq (by omega) (by omega)];omega
   rw[Kvu (gGe hj),w1,Kvu (gGe (show j - 1<s.length by omega))]
   simp only[bi_some]
   have hds:fd s (j+1)=if s[j]=s[j - 1] then s.take j else s.take (j+1):=by
    rw[fd,gGe hj,gGe (show j - 1<s.length by omega),hd,List.take_add_one,gGe hj]
    simp[show 0<j by omega]
   by_cases he:s[j]=s[j - 1]
   ·rw[if_pos he] at hds
    have:eqFa s[j] s[j - 1]=true:=by rw[Lfx];exact dT he
    rw[show((((s[j]).Node:Str)==(s[j - 1]).Node)&&((((s[j]).Posture:Str)==(s[j - 1]).Posture)&&true))=true from this]
    simp only[cond_true]
    have hz:subZ s (j:Int) (s.length:Int)=some (s.drop j):=by
     have e:=Kvt (l:=s) (i:=j) (j:=s.length) (by omega) (by omega)
     rw[e]
     simp
    rw[hz]
    simp only[bi_some]
    refine .inl ⟨.inr (fd s s.length),?_,.inr rfl⟩
    refine Kvf (I:=fun t:List Kwl×Int×Int=>t.1.length=s.length∧1≤t.2.2∧j+t.2.2≤s.length∧0≤t.2.1∧t.2.1≤j+t.2.2 - 1∧fd s (j+t.2.2.toNat)=t.1.take t.2.1.toNat∧∀ q,j+t.2.2.toNat - 1≤q→t.1[q]?=s[q]?)
     (μ:=fun t=>s.length - (j+t.2.2.toNat)) (Q:=fun r=>r.1.length=s.length∧0≤r.2∧r.2≤s.length∧fd s s.length=r.1.take r.2.toNat) ?_ ⟨rfl,by simp,by simp;omega,by simp,by simp,by simpa using hds,fun _ _=>rfl⟩ (by simp;omega) ?_
    ·rintro⟨cur,w,q⟩ ⟨i1,i2,i3,i4,i5,i6,i7⟩
     simp only at i1 i2 i3 i4 i5 i6 i7 ⊢
     obtain⟨q,rfl⟩:=Int.eq_ofNat_of_zero_le (show 0≤q by omega)
     obtain⟨w,rfl⟩:=Int.eq_ofNat_of_zero_le i4
     simp only[Int.toNat_natCast] at *
     have hdl:(s.drop j).length=s.length - j:=by simp
     by_cases hq:(q:Int)<((s.drop j).length:Int)
     ·rw[dT hq]
      rw[hdl] at hq
      simp only[cond_true]
      have v1:wi ((q:Int) - 1)=((q - 1:Nat):Int):=by rw[Kuq (by omega) (by omega)];omega
      have v2:wi ((q:Int)+1)=((q+1:Nat):Int):=by rw[Kuq (by omega) (by omega)];omega
      have v3:wi ((w:Int)+1)=((w+1:Nat):Int):=by rw[Kuq (by omega) (by omega)];omega
      have g1:(s.drop j)[q]?=some s[j+q]:=by rw[List.getElem?_drop,gGe (by omega)]
      have g2:(s.drop j)[q - 1]?=some s[j+q - 1]:=by rw[List.getElem?_drop,gGe (by omega)];congr 2;omega
      have g3:cur[j+q]?=some s[j+q]:=by rw[i7 _ (by omega),gGe (by omega)]
      have g4:cur[j+(q - 1)]?=some s[j+q - 1]:=by rw[i7 _ (by omega),gGe (by omega)];congr 2;omega
      have g5:∃ u,cur[w]?=some u:=⟨_,gGe (by omega)⟩
      obtain⟨u,g5⟩:=g5
      rw[Kvu g1,v1]
      simp only[bi_some,Int.toNat_natCast]
      rw[Kvu g3,Kvu g2,Kvu g4,Kvu g5]
      simp only[bi_some]
      have hdq:fd s (j+(q+1))=if s[j+q]=s[j+q - 1] then fd s (j+q) else fd s (j+q)++[s[j+q]]:=by
       rw[←Nat.add_assoc,fd,gGe (show j+q<s.length by omega),gGe (show j+q - 1<s.length by omega)]
       simp[show 0<j+q by omega]
      by_cases hne:s[j+q]=s[j+q - 1]
      ·have e:eqFa s[j+q] s[j+q - 1]=true:=by rw[Lfx];exact dT hne
       rw[show((((s[j+q]).Node:Str)==(s[j+q - 1]).Node)&&((((s[j+q]).Posture:Str)==(s[j+q - 1]).Posture)&&true))=true from e,v2]
       rw[if_pos hne] at hdq
       refine .inr ⟨_,rfl,⟨i1,by simp;omega,by simp;omega,by simp,by simp;omega,by simpa [hdq] using i6,fun p hp=>i7 p (by simp at hp;omega)⟩,by simp;omega⟩
      have e:eqFa s[j+q] s[j+q - 1]=false:=by rw[Lfx];exact dF hne
      rw[show((((s[j+q]).Node:Str)==(s[j+q - 1]).Node)&&((((s[j+q]).Posture:Str)==(s[j+q - 1]).Posture)&&true))=false from e,v2,v3]
      rw[if_neg hne] at hdq
      refine .inr ⟨_,rfl,⟨by simpa using i1,by simp;omega,by simp;omega,by simp;omega,by simp;omega,?_,fun p hp=>?_⟩,by simp;omega⟩
      ·simp only[Int.toNat_natCast]
       rw[hdq,i6,List.take_add_one,gSs (by omega),List.take_set_of_le (Nat.le_refl _)]
       rfl
      simp only[Int.toNat_natCast] at hp
      rw[gSn (by omega)]
      exact i7 p (by omega)
     rw[dF hq]
     rw[hdl] at hq
     refine .inl ⟨_,rfl,i1,by simp,by simp;omega,?_⟩
     simp only[Int.toNat_natCast]
     rw[←i6]
     congr 1
     omega
    rintro⟨cur,w⟩ ⟨r1,r2,r3,r4⟩
    simp only at r1 r2 r3 r4 ⊢
    obtain⟨w,rfl⟩:=Int.eq_ofNat_of_zero_le r2
    have e:=Kvt (l:=cur) (i:=w) (j:=cur.length) (by omega) (by omega)
    rw[e]
    simp only[bi_some,Int.toNat_natCast] at r4 ⊢
    rw[r4]
   rw[if_neg he] at hds
   have:eqFa s[j] s[j - 1]=false:=by rw[Lfx];exact dF he
   rw[show((((s[j]).Node:Str)==(s[j - 1]).Node)&&((((s[j]).Posture:Str)==(s[j - 1]).Posture)&&true))=false from this,w2]
   exact .inr ⟨_,rfl,⟨by omega,by omega,by simpa using hds⟩,by simp;omega⟩
  rw[dF hlt]
  refine .inl ⟨_,rfl,.inl ⟨rfl,?_⟩⟩
  have:i.toNat=s.length:=by omega
  rw[this] at hd
  simpa using hd
 ·simp only[fd,Int.reduceToNat]
  simp[List.take_add_one]
 rintro r (⟨rfl,h⟩ | rfl)
 ·simp only[orI]
  rw[h]
 rfl
theorem Lgc{a b:List Kwl}(ha:a.Pairwise fun x y=>ltF x y=true)(hb:b.Pairwise fun x y=>ltF x y=true)(h:∀ x,x∈a ↔ x∈b):a=b:=by
 have no:∀ x y,ltF x y=true→ltF y x=true→False:=fun x y h1 h2=>by rw[Ljv _ _ h1] at h2;cases h2
 exact List.Perm.eq_of_pairwise (fun x y _ _ h1 h2=>(no x y h1 h2).elim) ha hb ((List.perm_ext_iff_of_nodup (ha.imp fun h e=>by subst e;exact no _ _ h h) (hb.imp fun h e=>by subst e;exact no _ _ h h)).2 h)
def riseF(l:List Kwl):List Kwl:=fd (srtF l) (srtF l).length
theorem Lgd(l:List Kwl):(riseF l).Pairwise fun x y=>ltF x y=true:=Lga _ (Lka l) _ (Nat.le_refl _)
theorem Lge(l:List Kwl)(x:Kwl):x∈riseF l ↔ x∈l:=by
 unfold riseF
 rw[Lfz _ _ _ (Nat.le_refl _),List.take_length,(Lkb l).mem_iff]
theorem Lgf(l:List Kwl):(riseF l).length≤l.length:=by
 unfold riseF
 refine Nat.le_trans (Lfy _ _) ?_
 rw[(Lkb l).length_eq]
 exact Nat.le_refl _
theorem Lgg(k:Nat)(l:List Kwl)(hk:l.length+2≤k)(hl:l.length≤4294967296):Kyf k (srtF l)=some (riseF l):=
 Lgb k _ (by rw[(Lkb l).length_eq];exact hk) (by rw[(Lkb l).length_eq];exact hl)
theorem Lgh{a b:List Kwl}(h:∀ x,x∈a ↔ x∈b):riseF a=riseF b:=Lgc (Lgd a) (Lgd b) fun x=>by rw[Lge,Lge,h]
end Go.Gk
namespace Go.Gk
def gB(t:Int)(q:Rq):Bool:=q.giv&&(decide (q.von≤t)&&decide (t<q.bis))
def gP(t:Int)(q:Rq):List Kwl:=bif gB t q then[⟨q.node,q.post⟩] else[]
def fkG(t:Int)(S:SQ):List Kwl:=riseF (S.flatMap fun e=>gP t e.2)
theorem Lif{t:Int}{q:Rq}{f:Kwl}:f∈gP t q ↔ gB t q=true∧f=⟨q.node,q.post⟩:=by
 unfold gP
 cases gB t q<;>simp
theorem Lig(k:Nat)(l:List Kwl)(hk:l.length+2≤k)(hl:l.length≤1000000):Kyg k l=some (riseF l):=by
 unfold Kyg Kyd
 rw[Kux (by simp;omega),bi_some,bi_some,List.nil_append]
 refine Llq hl ?_
 rw[(Lkb l).length_eq]
 simp only[decide_true,gd_true]
 rw[Lgg k l hk (by omega)]
 rfl
section
variable{R:List Kwf}
theorem Lih{m:List (Str×Nat)}{S:SQ}{al:BagT}(h:RP al.1 al.2.1 m S)(hm:m.length≤800000){k:Nat}(hk:800002≤k)(t:Int)(R:List Kwf):Kyh k ⟨R,m⟩ t al=some (fkG t S):=by
 obtain⟨a0,a1,a2⟩:=al
 simp only at h
 unfold Kyh
 simp only
 refine Lkd (fun e=>gP t (vwP ((hGet a1 e.2).getD zP))) (fun e he=>⟨?_,fun s hs=>?_⟩) (by omega) fun r hp=>?_
 ·unfold gP;cases gB t _<;>simp
 ·obtain⟨x,x1,x2,x3,x4⟩:=h.ent he
  have hb0:Nat.blt 0 e.2=true:=by simpa [Nat.blt_eq] using x2
  simp only[hb0,gd_true,x1,bi_some,Option.getD_some]
  have e1:(bi (bif x.given then some (decide ((x.v_from:Int)≤t)) else some false) fun q23=>bi (bif q23 then some (decide ((t:Int)<x.to)) else some false) fun q31=>bif q31 then(bi (apd s [(⟨x.asked.Node,x.asked.Posture⟩:Kwl)]) fun y48=>some y48) else(some s))=some (s++gP t (vwP x)):=by
   have e2:gP t (vwP x)=bif (x.given&&(decide (x.v_from≤t)&&decide (t<x.to))) then[⟨x.asked.Node,x.asked.Posture⟩] else[]:=rfl
   rw[e2,Kux (by simp;omega)]
   cases x.given<;>simp only[cond_true,cond_false,bi_some,Bool.true_and,Bool.false_and,List.append_nil]
   cases decide (x.v_from≤t)<;>simp only[cond_true,cond_false,bi_some,Bool.true_and,Bool.false_and,List.append_nil]
   cases decide (t<x.to)<;>simp
  exact e1
 have hlr:r.length≤800000:=by
  rw[hp.length_eq]
  have:∀ L:List (Str×Nat),(L.flatMap fun e=>gP t (vwP ((hGet a1 e.2).getD zP))).length≤L.length:=by
   intro L
   induction L with
   | nil=>simp
   | cons e L ih=>
    rw[List.flatMap_cons,List.length_append,List.length_cons]
    have:(gP t (vwP ((hGet a1 e.2).getD zP))).length≤1:=by unfold gP;cases gB t _<;>simp
    omega
  exact Nat.le_trans (this m) hm
 rw[Lig k r (by omega) (by omega),bi_some]
 congr 1
 refine Lgh fun f=>?_
 rw[hp.mem_iff,List.mem_flatMap,List.mem_flatMap]
 constructor
 ·rintro⟨e,he,hf⟩
  obtain⟨x,x1,x2,x3,x4⟩:=h.ent he
  rw[x1] at hf
  exact⟨(e.1,vwP x),Ktw x4,hf⟩
 rintro⟨e,he,hf⟩
 rcases h.at e.1 with⟨h2,_⟩ | ⟨a,x,g1,g2,g3,g4,g5,g6⟩
 ·rw[h.sm.get (k:=e.1) (v:=e.2) he] at h2;cases h2
 rw[h.sm.get (k:=e.1) (v:=e.2) he] at g1
 refine⟨(e.1,a),Ktw g3,?_⟩
 simp only[g5,Option.getD_some]
 rw[←oSi g1]
 exact hf
theorem Lii{l:List Kwg}(hl:l.length≤800000){t:Int}{al:BagT}(hF:FrB al){k:Nat}(hk:800002≤k)(h0:Kxo k R l=some 0)(h1:Kxz t=some 0) :
  ∃ al',Kyi k R l t al=some (fkG t (stA R l t),0,al')∧FrB al':=by
 obtain⟨al',m,e1,e2,e3⟩:=Lkt (R:=R) hl t hF
 have hlen:m.length≤800000:=by
  rw[←e2.len]
  refine Nat.le_trans (Lki _) ?_
  have:=List.length_filter_le (fun a:Kwg=>decide (a.At≤t)) l
  simp only[List.length_nil];omega
 refine⟨al',?_,e3⟩
 unfold Kyi
 rw[h0,bi_some]
 simp only[bne_self_eq_false,cond_false]
 rw[h1,bi_some]
 simp only[bne_self_eq_false,cond_false]
 rw[e1,bi_some,Lih e2 hlen hk t R,bi_some]
def Inv2(t:Int)(S:SQ):Prop:=∀ k q,mGet S k=some q→q.giv=true→q.von≤t
theorem Inv2.step{t:Int}{S:SQ}(h:Inv2 t S)(R:List Kwf){a:Kwg}(ha:a.At≤t):Inv2 t (stepS R a S).2:=by
 intro k q hq hg
 rcases Lko R a S with e | ⟨x,_,_,_,_,e⟩ | ⟨q0,q',_,e1,e2,e⟩
 ·rw[e] at hq;exact h k q hq hg
 ·rw[e,Kua] at hq
  split at hq
  ·cases hq;cases hg
  exact h k q hq hg
 rw[e,Kua] at hq
 split at hq
 ·cases hq
  rcases Lke e2 with⟨w,rfl⟩ | ⟨w,rfl⟩ | ⟨w,_,rfl⟩
  ·unfold agreeQ at hg ⊢
   cases hN:((q0.yes++[a.By]).length:Int)==q0.acc.Need
   ·rw[hN] at hg
    have:=(Lkf w).2
    simp only[cond_false] at hg
    rw[this] at hg;cases hg
   exact ha
  ·exact h _ q0 e1 hg
  exact h _ q0 e1 hg
 exact h k q hq hg
theorem Inv2.run{t:Int}:∀ (l:List Kwg) {S:SQ},(∀ a∈l,a.At≤t)→Inv2 t S→Inv2 t (runS R l S)
 | [],S,_,h=>h
 | a :: l,S,hl,h=>Inv2.run l (fun x hx=>hl x (mCo _ hx)) (h.step R (hl a mCs))
theorem Lij(l:List Kwg)(t:Int):Inv2 t (stA R l t):=
 Inv2.run _ (fun a ha=>by simpa using (List.mem_filter.1 ha).2) (fun k q h=>by cases h)
theorem Lik:∀ (l:List Kwg) {S:SQ},SM S→SM (runS R l S)
 | [],S,h=>h
 | a :: l,S,h=>Lik l (by
   show SM (stepS R a S).2
   rcases Lko R a S with e | ⟨x,_,_,_,_,e⟩ | ⟨q0,q',_,e1,e2,e⟩<;>rw[e]
   ·exact h
   ·exact h.set _ _
   exact h.set _ _)
theorem Lil(l:List Kwg)(t:Int):SM (stA R l t):=Lik _ SM.nil
theorem Lim{t:Int}{q:Rq}(h1:(q.den&&q.giv)=false)(h2:q.giv=true→q.von≤t):((stQ t q:Int)==4)=gB t q:=by
 unfold stQ gB
 cases hd:q.den<;>cases hg:q.giv
 ·simp only[Bool.false_and,cond_false]
  cases q.waits t<;>rfl
 ·simp only[Bool.true_and,cond_false,cond_true]
  rw[dT (h2 hg)]
  cases decide (t<q.bis)<;>rfl
 ·rfl
 rw[hd,hg] at h1;cases h1
theorem Lin{l:List Kwg}(hl:l.length≤800000)(hk:Kd l)(hr:Rise l)(t:Int){al:BagT}(hF:FrB al){k:Nat}(hkk:800002≤k) :
  ∃ al',Kzg k R l t al=some (fkG t (stA R l t),al')∧FrB al':=by
 obtain⟨al',e1,e2⟩:=Lkm (R:=R) hl hk hr t hF
 refine⟨al',?_,e2⟩
 have hI:Inv1 (stA R l t):=Inv1.run _ Inv1.nil
 have hI2:=Lij (R:=R) l t
 have hlen:(stA R l t).length≤800000:=by
  refine Nat.le_trans (Lki _) ?_
  have:=List.length_filter_le (fun a:Kwg=>decide (a.At≤t)) l
  simp only[List.length_nil];omega
 have hsm:=Lil (R:=R) l t
 unfold Kzg
 rw[e1,bi_some]
 have loop:∀ (L:SQ) (i:Nat) (acc:List Kwl),(∀ e∈L,e∈stA R l t)→acc.length+L.length≤4000000→
   rangeF (σ:=List Kwl) (fun i3 x5 s4=>bif (x5.State:Int)==4 then(bi (apd s4 [(⟨x5.Node,x5.Posture⟩:Kwl)]) fun y15=>some y15) else(some s4)) i (L.map fun e=>mkR t e.2) acc=some (acc++L.flatMap fun e=>gP t e.2):=by
  intro L
  induction L with
  | nil=>intro i acc _ _;simp[rangeF]
  | cons e L ih=>
   intro i acc hm hb
   simp only[List.length_cons] at hb
   have hg:=hsm.get (k:=e.1) (v:=e.2) (hm e mCs)
   have h4:(((mkR t e.2).State:Int)==4)=gB t e.2:=Lim (hI _ _ hg).2 (hI2 _ _ hg)
   simp only[List.map_cons,rangeF,h4,List.flatMap_cons]
   cases hq:gB t e.2 with
   | true=>
    have:gP t e.2=[⟨e.2.node,e.2.post⟩]:=by unfold gP;rw[hq];rfl
    rw[this]
    simp only[cond_true]
    rw[Kux (by simp;omega),bi_some,bi_some,ih (i+1) _ (fun y hy=>hm y (mCo _ hy)) (by simp;omega),List.append_assoc]
    rfl
   | false=>
    have:gP t e.2=[]:=by unfold gP;rw[hq];rfl
    rw[this]
    simp only[cond_false,bi_some,List.nil_append]
    exact ih (i+1) acc (fun y hy=>hm y (mCo _ hy)) (by omega)
 simp only
 rw[show reqL t (stA R l t)=(stA R l t).map fun e=>mkR t e.2 from rfl,loop _ 0 [] (fun e he=>he) (by simp;omega),bi_some,List.nil_append]
 have hfl:((stA R l t).flatMap fun e=>gP t e.2).length≤800000:=by
  have:∀ L:SQ,(L.flatMap fun e=>gP t e.2).length≤L.length:=by
   intro L
   induction L with
   | nil=>simp
   | cons e L ih=>
    rw[List.flatMap_cons,List.length_append,List.length_cons]
    have:(gP t e.2).length≤1:=by unfold gP;cases gB t e.2<;>simp
    omega
  exact Nat.le_trans (this _) hlen
 refine Llr (by omega) ?_
 rw[(Lkb _).length_eq]
 simp only[decide_true,gd_true]
 rw[Lgg k _ (by omega) (by omega)]
 rfl
end
end Go.Gk
