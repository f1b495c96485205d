import Derived.Test.YtjmlnnanfkiakaaGreatDoorFNet
set_option linter.all false
set_option maxRecDepth 100000
namespace Go.Gk
theorem Kal{K V:Type}[BEq K][LawfulBEq K][KLt K][KOrd K]{m:List (K×V)}(h:SM m)(k:K)(x y:V):mSet (mSet m k x) k y=mSet m k y:=
 SM.ext ((h.set _ _).set _ _) (h.set _ _) fun k'=>by
  rw[Kwv,Kwv,Kwv]
  split<;>rfl
theorem HOk.repl{X:Type}(x0:X){ar:List (Nat×X)}{m:List (Str×Nat)}{b a:Nat}{k:Str}(h:HOk ar m)(hb:∀ e∈ar,e.1<b)(hm:mGet m k=some a)(x y:X) :
  HOk ((b,x) :: hDel (hSet ar a y) a) (mSet m k (b+1))∧absH x0 ((b,x) :: hDel (hSet ar a y) a) (mSet m k (b+1))=mSet (absH x0 ar m) k x:=by
 obtain⟨z0,hz0⟩:=h.ok k a hm
 have old:∀ k' a',k'≠k→mGet m k'=some a'→a'≠b+1∧hGet ((b,x) :: hDel (hSet ar a y) a) a'=hGet ar a':=fun k' a' hk ha=>by
  obtain⟨z,hz⟩:=h.ok k' a' ha
  have h1:=Kbg hb hz
  have h2:a'≠a:=fun e=>hk (h.inj k' k a' ha (e▸hm))
  exact⟨h1,by rw[Kbb _ _ _ _ h1,Kbh h2,Kbc _ _ _ _ _ hz0,if_neg h2]⟩
 have hne:∀ {k':Str},(k'==k)=false→k'≠k:=fun h e=>by subst e;simp at h
 refine⟨⟨h.sm.set _ _,fun k' a' hg=>?_,fun k1 k2 a' h1 h2=>?_⟩,SM.ext (Kbn x0 _ (h.sm.set _ _)) ((Kbn x0 _ h.sm).set k x) fun k'=>?_⟩
 ·rw[Kwv] at hg
  split at hg
  ·cases hg;exact⟨x,Kba _ _ _⟩
  ·rename_i hq
   rw[(old k' a' (hne (Bool.eq_false_iff.2 hq)) hg).2];exact h.ok k' a' hg
 ·rw[Kwv] at h1 h2
  split at h1<;>split at h2
  ·rename_i q1 q2;rw[beq_iff_eq.1 q1,beq_iff_eq.1 q2]
  ·rename_i q1 q2;cases h1;exact absurd rfl (old k2 _ (hne (Bool.eq_false_iff.2 q2)) h2).1
  ·rename_i q1 q2;cases h2;exact absurd rfl (old k1 _ (hne (Bool.eq_false_iff.2 q1)) h1).1
  ·exact h.inj k1 k2 a' h1 h2
 ·have e1:mGet (absH x0 ((b,x) :: hDel (hSet ar a y) a) (mSet m k (b+1))) k'=_:=Kbm x0 _ _ k'
  have e2:mGet (mSet (absH x0 ar m) k x) k'=_:=Kwv _ _ _ _
  refine e1.trans (Eq.trans ?_ e2.symm)
  rw[Kbm,Kwv]
  cases hq:k'==k with
  | true=>simp only[if_true,Option.map_some,Kba];rfl
  | false=>
   simp only[Bool.false_eq_true,if_false]
   cases hk':mGet m k' with
   | none=>rfl
   | some a'=>simp only[Option.map_some,(old k' a' (hne hq) hk').2]
def key0:Lci:=⟨⟨[],[],[],0,0,false⟩,false,0⟩
def mac0:Lcb:=⟨[],[],[],[],[],0,0,false⟩
def k2p(x:Lci):Lcf:=⟨x.Join,x.revoked,x.used⟩
abbrev hdl(m:List (Str×Vl)):List (Str×Nat):=m.map fun e=>(e.1,e.2.1)
theorem Kam(m:List (Str×Vl))(k:Str):mGet (hdl m) k=(mGet m k).map (·.1):=Kbi (fun v:Vl=>v.1) m k
structure RH(v:Lcg)(al:BagT)(A:Ab)(c:Nat):Prop where
 bag:BagOk al
 d:v.d=A.d
 kh:HOk al.2.2.2.2.1 v.keys
 ks:(absH key0 al.2.2.2.2.1 v.keys).map (fun e=>(e.1,k2p e.2))=A.ps
 nh:HOk al.2.2.2.1 v.nodes
 ns:absH mac0 al.2.2.2.1 v.nodes=A.th
 ev:∀ k,(mGet v.ever k).getD false=(mGet A.st k).isSome
 hs:SM v.History
 hh:HOk al.2.2.1 (hdl v.History)
 hl:∀ k w,mGet v.History k=some w→∃ z,hGet al.2.2.1 w.1=some z∧z.length=w.2∧z≠[]∧z.length≤c
 hi:absH [] al.2.2.1 (hdl v.History)=A.hi
section
variable{v:Lcg}{al:BagT}{A:Ab}{c:Nat}{s:Lby}
theorem RH.up{c':Nat}(h:RH v al A c)(hc:c≤c'):RH v al A c':=⟨h.bag,h.d,h.kh,h.ks,h.nh,h.ns,h.ev,h.hs,h.hh,fun k w hw=>let ⟨z,h1,h2,h3,h4⟩:=h.hl k w hw;⟨z,h1,h2,h3,by omega⟩,h.hi⟩
theorem RH.stc(h:RH v al A c){st:List (Str×List Lcc)}(hs:∀ k,(mGet st k).isSome=(mGet A.st k).isSome):RH v al { A with st:=st } c:=⟨h.bag,h.d,h.kh,h.ks,h.nh,h.ns,fun k=>(h.ev k).trans (hs k).symm,h.hs,h.hh,h.hl,h.hi⟩
theorem RH.mach(h:RH v al A c){k:Str}{a:Nat}(hm:mGet v.nodes k=some a)(x:Lcb):RH v (al.1,al.2.1,al.2.2.1,hSet al.2.2.2.1 a x,al.2.2.2.2) { A with th:=mSet A.th k x } c:=by
 obtain⟨g1,g2⟩:=h.nh.set mac0 hm x
 refine⟨⟨h.bag.p,h.bag.r,Kbd h.bag.m,h.bag.k⟩,h.d,h.kh,h.ks,g1,?_,h.ev,h.hs,h.hh,h.hl,h.hi⟩
 show absH mac0 _ _=mSet A.th k x
 rw[←h.ns];exact g2
theorem RH.keyc(h:RH v al A c){k:Str}{a:Nat}(hm:mGet v.keys k=some a)(x:Lci):RH v (al.1,al.2.1,al.2.2.1,al.2.2.2.1,hSet al.2.2.2.2.1 a x,al.2.2.2.2.2) { A with ps:=mSet A.ps k (k2p x) } c:=by
 obtain⟨g1,g2⟩:=h.kh.set key0 hm x
 refine⟨⟨h.bag.p,h.bag.r,h.bag.m,Kbd h.bag.k⟩,h.d,g1,?_,h.nh,h.ns,h.ev,h.hs,h.hh,h.hl,h.hi⟩
 show(absH key0 _ _).map _=mSet A.ps k (k2p x)
 rw[g2,←h.ks]
 exact Kbj k2p (Kbn _ _ h.kh.sm) k x
theorem RH.kat(h:RH v al A c)(k:Str):(mGet A.ps k=none∧(mGet v.keys k).getD 0=0∧mGet v.keys k=none)∨∃ a x,mGet A.ps k=some (k2p x)∧mGet v.keys k=some a∧(mGet v.keys k).getD 0=a∧hGet al.2.2.2.2.1 a=some x∧0<a∧(a==0)=false:=by
 have e:mGet A.ps k=(mGet (absH key0 al.2.2.2.2.1 v.keys) k).map k2p:=by rw[←h.ks];exact Kbi k2p _ k
 rcases h.kh.at key0 k with⟨e1,e2⟩ | ⟨a,x,e1,e2,e3,e4,e5⟩
 ·refine .inl ⟨by rw[e,e1];rfl,e2,?_⟩
  rw[Kbm] at e1
  cases hm:mGet v.keys k with
  | none=>rfl
  | some q=>rw[hm] at e1;cases e1
 exact .inr ⟨a,x,by rw[e,e1];rfl,e2,e3,e4,e5,by simp;omega⟩
theorem RH.nat(h:RH v al A c)(k:Str):(mGet A.th k=none∧(mGet v.nodes k).getD 0=0∧mGet v.nodes k=none)∨∃ a x,mGet A.th k=some x∧mGet v.nodes k=some a∧(mGet v.nodes k).getD 0=a∧hGet al.2.2.2.1 a=some x∧0<a∧(a==0)=false:=by
 have hat:=h.nh.at mac0 k
 rw[h.ns] at hat
 rcases hat with⟨e1,e2⟩ | ⟨a,x,e1,e2,e3,e4,e5⟩
 ·refine .inl ⟨e1,e2,?_⟩
  rw[←h.ns,Kbm] at e1
  cases hm:mGet v.nodes k with
  | none=>rfl
  | some q=>rw[hm] at e1;cases e1
 exact .inr ⟨a,x,e1,e2,e3,e4,e5,by simp;omega⟩
theorem Kan(d:Lbx)(u:Str)(l:List Str):Lfv d u l=some (tagF d u l):=by
 have key:∀ (l:List Str) (i:Nat),rangeM (σ:=Unit) (ρ:=Int) (fun i1 x3 s2=>bi (Lfu d x3) fun y12=>bif !y12.2 then(bi (some 8) fun v=>some (.out v)) else(bi (Ldi y12.1 u) fun y18=>bif !y18 then(bi (some 16) fun v=>some (.out v)) else(some (.go ())))) i l ()=some (match tagF d u l with | 0=>.go () | e=>.out e):=by
  intro l
  induction l with
  | nil=>intro i;rfl
  | cons t l ih=>
   intro i
   simp only[rangeM,tagF]
   rw[Kxk]
   cases d.Owners.find? (fun o=>o.Tag==t) with
   | none=>rfl
   | some o=>
    simp only[bi_some,Bool.not_true,cond_false]
    rw[Kwy]
    cases hb:o.Users.any (fun x=>u==x) with
    | false=>rfl
    | true=>
     simp only[bi_some,Bool.not_true,cond_false,cond_true]
     exact ih (i+1)
 unfold Lfv
 rw[key l 0,bi_some]
 cases tagF d u l with
 | ofNat k=>cases k<;>rfl
 | negSucc k=>rfl
theorem Kao(d:Lbx)(u:Str)(m:Lcb):Lgc d u m=some (mng d u m):=by
 have hx:Lgb m.Tags d u=some (m.Tags.any (ownT d u)):=by
  unfold Lgb Lga
  rw[Kzf (ownT d u) m.Tags (fun j x _=>by
   unfold Lfz
   rw[Kxk]
   unfold ownT
   cases d.Owners.find? (fun o=>o.Tag==x) with
   | none=>simp only[bi_some];rw[Kwy];rfl
   | some o=>
    simp only[bi_some]
    rw[Kwy]
    show(bif o.Users.any (fun y=>u==y) then some (LS.out (j:Int)) else some (LS.go ()))=some (if o.Users.any (fun y=>u==y)=true then LS.out (j:Int) else LS.go ())
    by_cases hq:o.Users.any (fun y=>u==y)=true
    ·rw[if_pos hq,hq];rfl
    rw[if_neg hq,Bool.eq_false_iff.2 hq];rfl),bi_some,Kzc]
 unfold Lgc mng
 cases (m.User==u) with
 | true=>rfl
 | false=>simp only[cond_false];rw[hx];rfl
theorem Kap(h:RH v al A c)(p:Str):Lfx v p al=some (heldA A.th p):=by
 unfold Lfx
 rw[Kyf (fun e:Str×Nat=>((hGet al.2.2.2.1 e.2).getD mac0).Public==p) true () v.nodes (fun e he=>by
  obtain⟨x,hx⟩:=h.nh.ok e.1 e.2 (h.nh.sm.get he)
  rw[Kcw (Knk hx),hx]
  simp only[gd,cond_true,bi_some,Option.getD_some]
  cases (x.Public==p)<;>rfl)]
 have e:(v.nodes.any fun e=>((hGet al.2.2.2.1 e.2).getD mac0).Public==p)=heldA A.th p:=by
  unfold heldA
  rw[←h.ns]
  exact(List.any_map (f:=fun e:Str×Nat=>(e.1,(hGet al.2.2.2.1 e.2).getD mac0)) (l:=v.nodes) (p:=fun e=>e.2.Public==p)).symm
 rw[e]
 cases heldA A.th p<;>rfl
theorem badH(s:Lby):(bi (Ldj s.Uses 1 1000) fun y35=>some (((!y35)||(decide ((s.Until:Int)≤s.At)))||(decide ((s.Until:Int)>345686400))))=some (badN s):=by
 unfold Ldj badN
 rw[bi_some]
 congr 1
 have e:(!(decide (1≤s.Uses)&&decide (s.Uses≤1000)))=(decide (s.Uses<1)||decide (s.Uses>1000)):=by
  rw[Bool.eq_iff_iff];simp
 rw[e,Bool.or_assoc]
theorem Kaq(h:RH v al A c)(hv:StepV s)(hk:s.Kind=1∨s.Kind=2):∃ v' al',Lfw v s al=some ((stepA A s).1,v',al')∧RH v' al' (stepA A s).2 c:=by
 unfold Lfw stepA
 rw[Kwy,h.d,bi_some]
 have k3:((s.Kind:Int)==3)=false:=by rcases hk with e | e<;>rw[e]<;>rfl
 rw[k3]
 simp only[cond_false]
 cases (A.d.Users.any fun x=>s.By==x) with
 | false=>exact⟨v,al,rfl,h⟩
 | true=>
  simp only[Bool.not_true,cond_false]
  have hat:=h.kat s.Join
  rcases hk with e | e
  ·have k2:((s.Kind:Int)==2)=false:=by rw[e];rfl
   have k1:((s.Kind:Int)==1)=true:=by rw[e];rfl
   rw[k1,k2]
   simp only[Bool.false_and,cond_false,cond_true,bi_some]
   unfold keyA
   rcases hat with⟨e1,e2,e3⟩ | ⟨a,x,e1,e2,e3,e4,e5,e6⟩
   ·rw[e1,e2]
    simp only[beq_self_eq_true,Bool.not_true,cond_false]
    have hb:=badH s
    obtain⟨y,hy⟩:∃ y,Ldj s.Uses 1 1000=some y:=⟨_,rfl⟩
    rw[hy,bi_some] at hb
    rw[hy,bi_some,Option.some.inj hb]
    cases badN s with
    | true=>exact⟨v,al,rfl,h⟩
    | false=>
     simp only[cond_false]
     rw[Kan,bi_some]
     cases tagF A.d s.By s.Tags != 0 with
     | true=>exact⟨v,al,rfl,h⟩
     | false=>
      simp only[cond_false]
      rw[Kci (Kch hv.ok),bi_some]
      obtain⟨g1,g2⟩:=h.kh.new key0 h.bag.k s.Join ⟨⟨s.Join,s.By,s.Tags,s.Until,s.Uses,s.Ready⟩,false,0⟩ e3
      refine⟨⟨A.d,mSet v.keys s.Join (al.1.length+1),v.nodes,v.ever,v.History⟩,_,rfl,⟨⟨fun e he=>?_,fun e he=>?_,fun e he=>?_,fun e he=>?_⟩,rfl,g1,?_,h.nh,h.ns,h.ev,h.hs,h.hh,h.hl,h.hi⟩⟩
      ·have:=h.bag.p e he;simp;omega
      ·have:=h.bag.r e he;simp;omega
      ·have:=h.bag.m e he;simp;omega
      ·rcases List.mem_cons.1 he with rfl | he
       ·simp
       have:=h.bag.k e he;simp;omega
      show(absH key0 _ _).map _=mSet A.ps s.Join _
      rw[g2,←h.ks]
      exact Kbj k2p (Kbn _ _ h.kh.sm) s.Join _
   rw[e1,e3,e6]
   exact⟨v,al,rfl,h⟩
  have k2:((s.Kind:Int)==2)=true:=by rw[e];rfl
  have k1:((s.Kind:Int)==1)=false:=by rw[e];rfl
  rw[k1,k2]
  simp only[Bool.true_and,cond_false,cond_true,bi_some]
  unfold revA
  rcases hat with⟨e1,e2,e3⟩ | ⟨a,x,e1,e2,e3,e4,e5,e6⟩
  ·rw[e1,e2]
   exact⟨v,al,rfl,h⟩
  rw[e1,e3,e6,Kcw e5,e4]
  simp only[cond_false,gd,cond_true,bi_some,k2p]
  cases ((x.Join.By:Str)==s.By) with
  | false=>exact⟨v,al,rfl,h⟩
  | true=>
   simp only[Bool.not_true,cond_false]
   cases x.revoked with
   | true=>exact⟨v,al,rfl,h⟩
   | false=>exact⟨v,_,rfl,h.keyc e2 _⟩
end
end Go.Gk
