import Derived.Test.YthhdojhbohfmnaaGreatDoorTLoop
import Derived.Test.YthhdojhbohfmnaaGreatDoorQIns
set_option linter.all false
set_option maxRecDepth 100000
namespace Go.Gk
inductive Sh where
 | leaf
 | neg (s:Sh)
 | grp (st:Int) (l:List Sh)
mutual
def Sh.n:Sh→Nat
 | .leaf=>1
 | .neg s=>s.n
 | .grp _ l=>Sh.ns l
def Sh.ns:List Sh→Nat
 | []=>0
 | s :: r=>s.n+Sh.ns r
end
mutual
def Sh.ok:Sh→Prop
 | .leaf=>True
 | .neg s=>s.ok
 | .grp st l=>(st=0∨st=1)∧Sh.oks l
def Sh.oks:List Sh→Prop
 | []=>True
 | s :: r=>s.ok∧Sh.oks r
end
def neg3(v:Int):Int:=if v=1 then 0 else if v=0 then 1 else v
def cmb(st:Int)(vs:List Int):Int:=if st∈vs then st else if 2∈vs then 2 else 1 - st
mutual
def Sh.ev:Sh→List Int→Int
 | .leaf,ks=>ks.headD 2
 | .neg s,ks=>neg3 (s.ev ks)
 | .grp st l,ks=>cmb st (Sh.evs l ks)
def Sh.evs:List Sh→List Int→List Int
 | [],_=>[]
 | s :: r,ks=>s.ev ks :: Sh.evs r (ks.drop s.n)
end
def leL:List Int→List Int→Prop
 | [],_=>True
 | _ :: _,[]=>False
 | a :: r,b :: q=>a<b∨(a=b∧leL r q)
def ltB:List Int→List Int→Bool
 | _,[]=>false
 | [],_ :: _=>true
 | a :: r,b :: q=>decide (a<b)||(decide (a=b)&&ltB r q)
theorem Kwm:∀ a,leL a a
 | []=>trivial
 | a :: r=>.inr ⟨rfl,Kwm r⟩
theorem Kwn:∀ {a b c},leL a b→leL b c→leL a c
 | [],_,_,_,_=>trivial
 | _ :: _,[],_,h,_=>h.elim
 | _ :: _,_ :: _,[],_,h=>h.elim
 | a :: r,b :: q,c :: s,h1,h2=>by
  rcases h1 with h1 | ⟨rfl,h1⟩
  ·rcases h2 with h2 | ⟨rfl,h2⟩
   ·exact .inl (Int.lt_trans h1 h2)
   exact .inl h1
  rcases h2 with h2 | ⟨rfl,h2⟩
  ·exact .inl h2
  exact .inr ⟨rfl,Kwn h1 h2⟩
theorem Kwo:∀ {a b},leL a b→leL b a→a=b
 | [],[],_,_=>rfl
 | [],_ :: _,_,h=>h.elim
 | _ :: _,[],h,_=>h.elim
 | a :: r,b :: q,h1,h2=>by
  rcases h1 with h1 | ⟨rfl,h1⟩
  ·rcases h2 with h2 | ⟨rfl,h2⟩
   ·omega
   omega
  rcases h2 with h2 | ⟨_,h2⟩
  ·omega
  rw[Kwo h1 h2]
theorem Kwp:∀ {a b},ltB a b=false→leL b a
 | a,[],_=>by cases a<;>trivial
 | [],b :: q,h=>by simp[ltB] at h
 | a :: r,b :: q,h=>by
  simp only[ltB,Bool.or_eq_false_iff,Bool.and_eq_false_iff,decide_eq_false_iff_not] at h
  rcases h.2 with h2 | h2
  ·exact .inl (by omega)
  by_cases e:a=b
  ·exact .inr ⟨e.symm,Kwp h2⟩
  exact .inl (by omega)
theorem Kwq:∀ {a b},ltB a b=true→leL a b
 | a,[],h=>by cases a<;>simp[ltB] at h
 | [],b :: q,h=>trivial
 | a :: r,b :: q,h=>by
  simp only[ltB,Bool.or_eq_true,Bool.and_eq_true,decide_eq_true_eq] at h
  rcases h with h | ⟨h1,h2⟩
  ·exact .inl h
  exact .inr ⟨h1,Kwq h2⟩
theorem Kwr:∀ {a a' b b':List Int},a.length=a'.length→leL a a'→leL b b'→leL (a++b) (a'++b')
 | [],[],_,_,_,_,h=>h
 | [],_ :: _,_,_,h,_,_=>by simp at h
 | _ :: _,[],_,_,h,_,_=>by simp at h
 | x :: r,y :: q,b,b',hl,h1,h2=>by
  rcases h1 with h1 | ⟨rfl,h1⟩
  ·exact .inl h1
  exact .inr ⟨rfl,Kwr (by simpa using hl) h1 h2⟩
theorem Kws:∀ {a a' b b':List Int},a.length=a'.length→leL a a'→a≠a'→leL (a++b) (a'++b')
 | [],[],_,_,_,_,h=>absurd rfl h
 | [],_ :: _,_,_,h,_,_=>by simp at h
 | _ :: _,[],_,_,h,_,_=>by simp at h
 | x :: r,y :: q,b,b',hl,h1,h2=>by
  rcases h1 with h1 | ⟨rfl,h1⟩
  ·exact .inl h1
  exact .inr ⟨rfl,Kws (by simpa using hl) h1 fun e=>h2 (by rw[e])⟩
def le2(a b:List Int):Prop:=a.length<b.length∨(a.length=b.length∧leL a b)
def shB(a b:List Int):Bool:=decide (a.length<b.length)||(decide (a.length=b.length)&&ltB a b)
theorem Kwt(a:List Int):le2 a a:=.inr ⟨rfl,Kwm a⟩
theorem Kwu{a b c:List Int}(h1:le2 a b)(h2:le2 b c):le2 a c:=by
 rcases h1 with h1 | ⟨h1,k1⟩
 ·rcases h2 with h2 | ⟨h2,_⟩
  ·exact .inl (by omega)
  exact .inl (by omega)
 rcases h2 with h2 | ⟨h2,k2⟩
 ·exact .inl (by omega)
 exact .inr ⟨by omega,Kwn k1 k2⟩
theorem Kwv{a b:List Int}(h:shB a b=false):le2 b a:=by
 simp only[shB,Bool.or_eq_false_iff,Bool.and_eq_false_iff,decide_eq_false_iff_not] at h
 rcases h.2 with h2 | h2
 ·exact .inl (by omega)
 by_cases e:a.length=b.length
 ·exact .inr ⟨e.symm,Kwp h2⟩
 exact .inl (by omega)
theorem Kww{a b:List Int}(h:shB a b=true):le2 a b:=by
 simp only[shB,Bool.or_eq_true,Bool.and_eq_true,decide_eq_true_eq] at h
 rcases h with h | ⟨h1,h2⟩
 ·exact .inl h
 exact .inr ⟨h1,Kwq h2⟩
theorem Kwx(a b:List Int):le2 a (a++b):=by
 cases b with
 | nil=>rw[List.append_nil];exact Kwt a
 | cons x r=>exact .inl (by simp)
theorem Kwy(a b:List Int):le2 b (a++b):=by
 cases a with
 | nil=>exact Kwt b
 | cons x r=>exact .inl (by simp;omega)
theorem Kwz{a a' b b':List Int}(h1:le2 a a')(h2:le2 b b'):le2 (a++b) (a'++b'):=by
 rcases h1 with h1 | ⟨h1,k1⟩
 ·rcases h2 with h2 | ⟨h2,_⟩<;>exact .inl (by simp;omega)
 rcases h2 with h2 | ⟨h2,k2⟩
 ·exact .inl (by simp;omega)
 exact .inr ⟨by simp;omega,Kwr h1 k1 k2⟩
def Le3:List Int→List Int→Prop
 | [],[]=>True
 | a :: r,b :: q=>(a=b∨a=2)∧Le3 r q
 | _,_=>False
theorem Le3.refl:∀ l,Le3 l l
 | []=>trivial
 | a :: r=>⟨.inl rfl,Le3.refl r⟩
theorem Le3.len:∀ {m ks},Le3 m ks→m.length=ks.length
 | [],[],_=>rfl
 | [],_ :: _,h=>h.elim
 | _ :: _,[],h=>h.elim
 | _ :: _,_ :: _,h=>by simp[h.2.len]
theorem Le3.drop:∀ {m ks} (n:Nat),Le3 m ks→Le3 (m.drop n) (ks.drop n)
 | m,ks,0,h=>h
 | [],[],n+1,_=>trivial
 | [],_ :: _,_,h=>h.elim
 | _ :: _,[],_,h=>h.elim
 | _ :: _,_ :: _,n+1,h=>Le3.drop n h.2
theorem Le3.head:∀ {m ks},Le3 m ks→m.headD 2≠2→m.headD 2=ks.headD 2
 | [],[],_,_=>rfl
 | [],_ :: _,h,_=>h.elim
 | _ :: _,[],h,_=>h.elim
 | _ :: _,_ :: _,h,h2=>h.1.resolve_right h2
theorem Le3.app:∀ {m ks m' ks'},Le3 m ks→Le3 m' ks'→Le3 (m++m') (ks++ks')
 | [],[],_,_,_,h=>h
 | [],_ :: _,_,_,h,_=>h.elim
 | _ :: _,[],_,_,h,_=>h.elim
 | _ :: _,_ :: _,_,_,h,h2=>⟨h.1,h.2.app h2⟩
theorem Kxa:∀ ks:List Int,Le3 (List.replicate ks.length 2) ks
 | []=>trivial
 | a :: r=>⟨.inr rfl,Kxa r⟩
def idx:Int→List Int→List Int
 | _,[]=>[]
 | n,a :: r=>if a=2 then idx (n+1) r else n :: idx (n+1) r
theorem Kxb:∀ (n:Int) (a b:List Int),idx n (a++b)=idx n a++idx (n+a.length) b
 | n,[],b=>by simp[idx]
 | n,x :: a,b=>by
  simp only[List.cons_append,idx,List.length_cons]
  have h:=Kxb (n+1) a b
  rw[show n+1+(a.length:Int)=n+((a.length+1:Nat):Int) by omega] at h
  by_cases hx:x=2
  ·rw[if_pos hx,if_pos hx,h]
  rw[if_neg hx,if_neg hx,h];rfl
theorem Kxc(n:Int):∀ k:Nat,idx n (List.replicate k 2)=[]
 | 0=>rfl
 | k+1=>by simp only[List.replicate_succ,idx,if_true];exact Kxc (n+1) k
def stp(st:Int)(acc v:Int×List Int):Int×List Int:=
 if v.1=st then(if acc.1≠st∨shB v.2 acc.2=true then v else acc) else if acc.1=st then acc else if v.1=2∨acc.1=2 then(2,[]) else(acc.1,acc.2++v.2)
mutual
def Sh.pf:Sh→Int→List Int→List Int
 | .leaf,n,ks=>if ks.headD 2=2 then[] else[n]
 | .neg s,n,ks=>s.pf n ks
 | .grp st l,n,ks=>(Sh.pfs st l n ks (1 - st,[])).2
def Sh.pfs(st:Int):List Sh→Int→List Int→Int×List Int→Int×List Int
 | [],_,_,acc=>acc
 | s :: r,n,ks,acc=>Sh.pfs st r (n+s.n) (ks.drop s.n) (stp st acc (s.ev ks,s.pf n ks))
end
theorem Kxd{st:Int}{acc:Int×List Int}(v:Int×List Int)(h:acc.1=st):(stp st acc v).1=st∧le2 (stp st acc v).2 acc.2:=by
 unfold stp
 by_cases h1:v.1=st
 ·rw[if_pos h1]
  by_cases h2:shB v.2 acc.2=true
  ·rw[if_pos (.inr h2)];exact⟨h1,Kww h2⟩
  rw[if_neg (fun q=>q.elim (fun h3=>h3 h) (fun h3=>h2 h3))];exact⟨h,Kwt _⟩
 rw[if_neg h1,if_pos h];exact⟨h,Kwt _⟩
theorem Kxe{st:Int}(acc:Int×List Int){v:Int×List Int}(h:v.1=st):(stp st acc v).1=st∧le2 (stp st acc v).2 v.2:=by
 unfold stp
 rw[if_pos h]
 by_cases h2:acc.1≠st∨shB v.2 acc.2=true
 ·rw[if_pos h2];exact⟨h,Kwt _⟩
 rw[if_neg h2]
 have h3:acc.1=st:=Classical.byContradiction fun e=>h2 (.inl e)
 exact⟨h3,Kwv (by cases hb:shB v.2 acc.2 with | false=>rfl | true=>exact absurd (.inr hb) h2)⟩
theorem Kxf(st:Int):∀ (l:List Sh) (n:Int) (ks:List Int) (acc:Int×List Int),acc.1=st→(Sh.pfs st l n ks acc).1=st∧le2 (Sh.pfs st l n ks acc).2 acc.2
 | [],n,ks,acc,h=>by simp only[Sh.pfs];exact⟨h,Kwt _⟩
 | s :: r,n,ks,acc,h=>by
  simp only[Sh.pfs]
  obtain⟨h1,h2⟩:=Kxd (s.ev ks,s.pf n ks) h
  obtain⟨h3,h4⟩:=Kxf st r (n+s.n) (ks.drop s.n) _ h1
  exact⟨h3,Kwu h4 h2⟩
theorem Kxg(st:Int)(hst:st≠2):∀ (l:List Sh) (n:Int) (ks:List Int) (acc:Int×List Int),(Sh.pfs st l n ks acc).1=if acc.1=st∨st∈Sh.evs l ks then st else if acc.1=2∨2∈Sh.evs l ks then 2 else acc.1
 | [],n,ks,acc=>by
  simp only[Sh.pfs,Sh.evs,List.not_mem_nil,or_false]
  by_cases h1:acc.1=st
  ·rw[if_pos h1];exact h1
  rw[if_neg h1]
  by_cases h2:acc.1=2
  ·rw[if_pos h2];exact h2
  rw[if_neg h2]
 | s :: r,n,ks,acc=>by
  simp only[Sh.pfs,Sh.evs,List.mem_cons]
  by_cases h0:s.ev ks=st
  ·rw[(Kxf st r _ _ _ (Kxe acc (v:=(s.ev ks,s.pf n ks)) h0).1).1,if_pos (.inr (.inl h0.symm))]
  by_cases h1:acc.1=st
  ·rw[(Kxf st r _ _ _ (Kxd (s.ev ks,s.pf n ks) h1).1).1,if_pos (.inl h1)]
  have h0':¬ st=s.ev ks:=fun e=>h0 e.symm
  rw[Kxg st hst r]
  have hs:(stp st acc (s.ev ks,s.pf n ks)).1=if s.ev ks=2∨acc.1=2 then 2 else acc.1:=by
   unfold stp
   rw[if_neg h0,if_neg h1]
   by_cases h2:s.ev ks=2∨acc.1=2
   ·rw[if_pos h2,if_pos h2]
   rw[if_neg h2,if_neg h2]
  rw[hs]
  by_cases h2:s.ev ks=2∨acc.1=2
  ·rw[if_pos h2]
   by_cases h3:st∈Sh.evs r (ks.drop s.n)
   ·rw[if_pos (.inr h3),if_pos (.inr (.inr h3))]
   rw[if_neg (fun q=>q.elim (fun e=>hst e.symm) (fun e=>h3 e)),if_pos (.inl rfl),if_neg (fun q=>q.elim (fun e=>h1 e) (fun q=>q.elim (fun e=>h0' e) (fun e=>h3 e))),
    if_pos (h2.elim (fun h2=>.inr (.inl h2.symm)) fun h2=>.inl h2)]
  rw[if_neg h2]
  by_cases h3:st∈Sh.evs r (ks.drop s.n)
  ·rw[if_pos (.inr h3),if_pos (.inr (.inr h3))]
  have e1':¬ 2=s.ev ks:=fun e=>h2 (.inl e.symm)
  have e2:¬ acc.1=2:=fun e=>h2 (.inr e)
  by_cases h4:2∈Sh.evs r (ks.drop s.n)
  ·simp[h1,h0',h3,e2,e1',h4]
  simp[h1,h0',h3,e2,e1',h4]
theorem Kxh{st:Int}(hst:st=0∨st=1)(l:List Sh)(n:Int)(ks:List Int):(Sh.pfs st l n ks (1 - st,[])).1=(Sh.grp st l).ev ks:=by
 rw[Kxg st (by omega)]
 simp only[Sh.ev,cmb]
 by_cases h1:st∈Sh.evs l ks
 ·rw[if_pos (.inr h1),if_pos h1]
 rw[if_neg (fun q=>q.elim (fun e=>by omega) (fun e=>h1 e)),if_neg h1]
 by_cases h2:2∈Sh.evs l ks
 ·rw[if_pos (.inr h2),if_pos h2]
 rw[if_neg (fun q=>q.elim (fun e=>by omega) (fun e=>h2 e)),if_neg h2]
theorem Kxi(st:Int)(hst:st≠2):∀ (l:List Sh) (n:Int) (ks:List Int) (acc:Int×List Int),(acc.1=2→acc.2=[])→(Sh.pfs st l n ks acc).1=2→(Sh.pfs st l n ks acc).2=[]
 | [],n,ks,acc,h,h2=>by simp only[Sh.pfs] at h2 ⊢;exact h h2
 | s :: r,n,ks,acc,h,h2=>by
  simp only[Sh.pfs] at h2 ⊢
  refine Kxi st hst r _ _ _ (fun h3=>?_) h2
  unfold stp at h3 ⊢
  split at h3
  ·rename_i h4
   split at h3
   ·rw[h4] at h3;exact absurd h3 hst
   rename_i h5;rw[if_pos h4,if_neg h5];exact h h3
  rename_i h4
  split at h3
  ·rename_i h5;rw[h5] at h3;exact absurd h3 hst
  rename_i h5
  split at h3
  ·rename_i h6;rw[if_neg h4,if_neg h5,if_pos h6]
  rename_i h6;exact absurd (.inr h3) h6
theorem Kxj:∀ (s:Sh) (n:Int) (ks:List Int),s.ok→s.ev ks=2→s.pf n ks=[]
 | .leaf,n,ks,_,h=>by simp only[Sh.ev] at h;simp only[Sh.pf];rw[if_pos h]
 | .neg s,n,ks,ho,h=>by
  simp only[Sh.ev] at h;simp only[Sh.pf]
  refine Kxj s n ks (by simpa only[Sh.ok] using ho) ?_
  unfold neg3 at h
  split at h
  ·omega
  split at h
  ·omega
  exact h
 | .grp st l,n,ks,ho,h=>by
  simp only[Sh.ok] at ho
  simp only[Sh.pf]
  exact Kxi st (by omega) l n ks _ (fun e=>by simp at e;omega) (by rw[Kxh ho.1];exact h)
theorem Kxk{v:Int}(h:neg3 v≠2):v≠2:=fun e=>by subst e;exact h rfl
mutual
theorem pmin:∀ (s:Sh) (n:Int) (ks m:List Int),s.ok→Le3 m ks→s.n≤ks.length→s.ev m≠2→s.ev m=s.ev ks∧le2 (s.pf n ks) (idx n (m.take s.n))
 | .leaf,n,ks,m,_,h,hn,h2=>by
  simp only[Sh.ev] at h2 ⊢
  have he:=h.head h2
  refine⟨he,?_⟩
  simp only[Sh.pf,Sh.n]
  rw[if_neg (by rw[←he];exact h2)]
  cases m with
  | nil=>exact absurd rfl h2
  | cons a r=>
   simp only[List.headD_cons] at h2
   simp only[List.take_succ_cons,List.take_zero,idx,if_neg h2]
   exact Kwt _
 | .neg s,n,ks,m,ho,h,hn,h2=>by
  simp only[Sh.ev] at h2 ⊢
  simp only[Sh.n] at hn ⊢
  simp only[Sh.pf]
  obtain⟨h3,h4⟩:=pmin s n ks m (by simpa only[Sh.ok] using ho) h hn (Kxk h2)
  exact⟨by rw[h3],h4⟩
 | .grp st l,n,ks,m,ho,h,hn,h2=>by
  simp only[Sh.ok] at ho
  simp only[Sh.n] at hn ⊢
  obtain⟨hA,hB,hC⟩:=Lmt st ho.1 l n ks m ho.2 h hn
  simp only[Sh.pf]
  simp only[Sh.ev,cmb] at h2 ⊢
  by_cases h3:st∈Sh.evs l m
  ·rw[if_pos h3,if_pos (hC _ (by omega) h3)]
   exact⟨rfl,hA _ h3⟩
  rw[if_neg h3] at h2 ⊢
  by_cases h4:2∈Sh.evs l m
  ·rw[if_pos h4] at h2;exact absurd rfl h2
  rw[if_neg h4]
  obtain⟨q,h5,h6,h7⟩:=hB (1 - st,[]) h3 h4 (by simp;omega) (by simp;omega)
  rw[h5,if_neg h3,if_neg h4]
  refine⟨rfl,?_⟩
  rw[h6,List.nil_append]
  exact h7
theorem Lmt(st:Int)(hst:st=0∨st=1):∀ (l:List Sh) (n:Int) (ks m:List Int),Sh.oks l→Le3 m ks→Sh.ns l≤ks.length→
  (∀ acc,st∈Sh.evs l m→le2 (Sh.pfs st l n ks acc).2 (idx n (m.take (Sh.ns l))))∧
  (∀ acc,st ∉ Sh.evs l m→2 ∉ Sh.evs l m→acc.1≠st→acc.1≠2→∃ q,Sh.evs l ks=Sh.evs l m∧(Sh.pfs st l n ks acc).2=acc.2++q∧le2 q (idx n (m.take (Sh.ns l))))∧
  ∀ v,v≠2→v∈Sh.evs l m→v∈Sh.evs l ks
 | [],n,ks,m,_,h,hn=>by
  refine⟨fun acc h=>by simp[Sh.evs] at h,fun acc h1 h2 h3 h4=>⟨[],by simp only[Sh.evs],by simp only[Sh.pfs,List.append_nil],?_⟩,fun v _ h=>by simp[Sh.evs] at h⟩
  simp only[Sh.ns,List.take_zero,idx]
  exact Kwt _
 | s :: r,n,ks,m,ho,h,hn=>by
  simp only[Sh.oks] at ho
  simp only[Sh.ns] at hn ⊢
  have hs:=pmin s n ks m ho.1 h (by omega)
  obtain⟨hA,hB,hC⟩:=Lmt st hst r (n+s.n) (ks.drop s.n) (m.drop s.n) ho.2 (h.drop s.n) (by simp;omega)
  have hml:m.length=ks.length:=h.len
  have htk:idx n (m.take (s.n+Sh.ns r))=idx n (m.take s.n)++idx (n+s.n) ((m.drop s.n).take (Sh.ns r)):=by
   rw[List.take_add,Kxb,List.length_take,Nat.min_eq_left (by omega)]
  rw[htk]
  simp only[Sh.evs,Sh.pfs,List.mem_cons,not_or]
  refine⟨fun acc h1=>?_,fun acc h1 h2 h3 h4=>?_,fun v hv h1=>?_⟩
  ·rcases h1 with h1 | h1
   ·obtain⟨e1,e2⟩:=hs (by omega)
    obtain⟨e3,e4⟩:=Kxe acc (v:=(s.ev ks,s.pf n ks)) (show s.ev ks=st by rw[←e1];exact h1.symm)
    obtain⟨_,e5⟩:=Kxf st r (n+s.n) (ks.drop s.n) _ e3
    exact Kwu e5 (Kwu e4 (Kwu e2 (Kwx _ _)))
   ·exact Kwu (hA _ h1) (Kwy _ _)
  ·obtain⟨e1,e2⟩:=hs (fun e=>h2.1 e.symm)
   have e3:stp st acc (s.ev ks,s.pf n ks)=(acc.1,acc.2++s.pf n ks):=by
    unfold stp
    rw[if_neg (show ¬ s.ev ks=st from fun e=>h1.1 (by rw[e1];exact e.symm)),if_neg h3,if_neg (fun q=>q.elim (fun e=>h2.1 (by rw[e1];exact e.symm)) (fun e=>h4 e))]
   rw[e3]
   obtain⟨q,e4,e5,e6⟩:=hB (acc.1,acc.2++s.pf n ks) h1.2 h2.2 h3 h4
   refine⟨s.pf n ks++q,by rw[e4,e1],by rw[e5,List.append_assoc],Kwz e2 e6⟩
  ·rcases h1 with h1 | h1
   ·exact .inl (by rw[←(hs (by rw[←h1];exact hv)).1];exact h1)
   ·exact .inr (hC v hv h1)
end
theorem Kxl{α:Type}(a b:List α):(a++b).drop a.length=b:=List.drop_left' rfl
mutual
theorem pdec:∀ (s:Sh) (n:Int) (ks:List Int),s.ok→s.n≤ks.length→s.ev ks≠2→∃ m,m.length=s.n∧Le3 m (ks.take s.n)∧idx n m=s.pf n ks∧∀ t,s.ev (m++t)=s.ev ks
 | .leaf,n,ks,_,hn,h=>by
  simp only[Sh.ev] at h
  cases ks with
  | nil=>exact absurd rfl h
  | cons a r=>
   simp only[List.headD_cons] at h
   refine⟨[a],rfl,⟨.inl rfl,trivial⟩,?_,fun t=>rfl⟩
   show(if a=2 then idx (n+1) [] else n :: idx (n+1) [])=if a=2 then[] else[n]
   rw[if_neg h,if_neg h];rfl
 | .neg s,n,ks,ho,hn,h=>by
  simp only[Sh.ev] at h ⊢
  simp only[Sh.n] at hn ⊢
  simp only[Sh.pf]
  obtain⟨m,h1,h2,h3,h4⟩:=pdec s n ks (by simpa only[Sh.ok] using ho) hn (Kxk h)
  exact⟨m,h1,h2,h3,fun t=>by rw[h4]⟩
 | .grp st l,n,ks,ho,hn,h=>by
  simp only[Sh.ok] at ho
  simp only[Sh.n] at hn ⊢
  obtain⟨hA,hB⟩:=Lmu st ho.1 l n ks (1 - st,[]) ho.2 hn
  simp only[Sh.pf]
  simp only[Sh.ev,cmb] at h ⊢
  by_cases h3:st∈Sh.evs l ks
  ·rw[if_pos h3]
   rcases hA (.inr h3) with⟨h4,_⟩ | ⟨m,h4,h5,h6,h7⟩
   ·simp at h4;omega
   exact⟨m,h4,h5,h6,fun t=>by rw[if_pos (h7 t)]⟩
  rw[if_neg h3] at h ⊢
  by_cases h4:2∈Sh.evs l ks
  ·rw[if_pos h4] at h;exact absurd rfl h
  rw[if_neg h4]
  obtain⟨m,h5,h6,h7,h8⟩:=hB h3 h4 (by simp;omega) (by simp;omega)
  exact⟨m,h5,h6,by rw[h7];rfl,fun t=>by rw[h8,if_neg h3,if_neg h4]⟩
theorem Lmu(st:Int)(hst:st=0∨st=1):∀ (l:List Sh) (n:Int) (ks:List Int) (acc:Int×List Int),Sh.oks l→Sh.ns l≤ks.length→
  ((acc.1=st∨st∈Sh.evs l ks)→(acc.1=st∧(Sh.pfs st l n ks acc).2=acc.2)∨∃ m,m.length=Sh.ns l∧Le3 m (ks.take (Sh.ns l))∧idx n m=(Sh.pfs st l n ks acc).2∧∀ t,st∈Sh.evs l (m++t))∧
  (st ∉ Sh.evs l ks→2 ∉ Sh.evs l ks→acc.1≠st→acc.1≠2→∃ m,m.length=Sh.ns l∧Le3 m (ks.take (Sh.ns l))∧(Sh.pfs st l n ks acc).2=acc.2++idx n m∧∀ t,Sh.evs l (m++t)=Sh.evs l ks)
 | [],n,ks,acc,_,hn=>by
  refine⟨fun h=>.inl ⟨by simpa [Sh.evs] using h,by simp only[Sh.pfs]⟩,fun h1 h2 h3 h4=>⟨[],rfl,?_,by simp only[Sh.pfs,idx,List.append_nil],fun t=>by simp only[Sh.evs]⟩⟩
  simp only[Sh.ns,List.take_zero];trivial
 | s :: r,n,ks,acc,ho,hn=>by
  simp only[Sh.oks] at ho
  simp only[Sh.ns] at hn ⊢
  obtain⟨hA,hB⟩:=Lmu st hst r (n+s.n) (ks.drop s.n) (stp st acc (s.ev ks,s.pf n ks)) ho.2 (by simp;omega)
  have hs:=pdec s n ks ho.1 (by omega)
  have l1:(ks.take s.n).length=s.n:=by rw[List.length_take,Nat.min_eq_left (by omega)]
  have l2:((ks.drop s.n).take (Sh.ns r)).length=Sh.ns r:=by simp;omega
  have htk:ks.take (s.n+Sh.ns r)=ks.take s.n++(ks.drop s.n).take (Sh.ns r):=List.take_add
  simp only[Sh.evs,Sh.pfs,List.mem_cons,not_or]
  rw[htk]
  have tail:∀ (m:List Int),m.length=Sh.ns r→Le3 m ((ks.drop s.n).take (Sh.ns r))→∃ m',m'.length=s.n+Sh.ns r∧Le3 m' (ks.take s.n++(ks.drop s.n).take (Sh.ns r))∧idx n m'=idx (n+s.n) m∧∀ t,(m'++t).drop s.n=m++t:=fun m hm1 hm2=>by
   refine⟨List.replicate s.n 2++m,by simp[hm1],?_,?_,fun t=>?_⟩
   ·have:=Kxa (ks.take s.n)
    rw[l1] at this
    exact this.app hm2
   ·rw[Kxb,Kxc,List.length_replicate];rfl
   ·rw[List.append_assoc];exact List.drop_left' (by simp)
  refine⟨fun h=>?_,fun h1 h2 h3 h4=>?_⟩
  ·by_cases h0:(stp st acc (s.ev ks,s.pf n ks)).1=st∨st∈Sh.evs r (ks.drop s.n)
   ·rcases hA h0 with⟨h5,h6⟩ | ⟨m,h5,h6,h7,h8⟩
    ·rw[h6]
     by_cases h9:s.ev ks=st
     ·by_cases h10:acc.1≠st∨shB (s.pf n ks) acc.2=true
      ·have e:stp st acc (s.ev ks,s.pf n ks)=(s.ev ks,s.pf n ks):=by unfold stp;rw[if_pos h9,if_pos h10]
       rw[e]
       obtain⟨m,k1,k2,k3,k4⟩:=hs (by rw[h9];rcases hst with e | e<;>rw[e]<;>decide)
       refine .inr ⟨m++List.replicate (Sh.ns r) 2,by simp[k1],?_,?_,fun t=>.inl ?_⟩
       ·have:=Kxa ((ks.drop s.n).take (Sh.ns r))
        rw[l2] at this
        exact k2.app this
       ·rw[Kxb,Kxc,List.append_nil];exact k3
       ·rw[List.append_assoc,k4];exact h9.symm
      ·have e:stp st acc (s.ev ks,s.pf n ks)=acc:=by unfold stp;rw[if_pos h9,if_neg h10]
       rw[e] at h5 ⊢
       exact .inl ⟨h5,rfl⟩
     ·by_cases h10:acc.1=st
      ·have e:stp st acc (s.ev ks,s.pf n ks)=acc:=by unfold stp;rw[if_neg h9,if_pos h10]
       rw[e]
       exact .inl ⟨h10,rfl⟩
      ·exfalso
       unfold stp at h5
       rw[if_neg h9,if_neg h10] at h5
       split at h5
       ·simp at h5;omega
       ·exact h10 h5
    ·obtain⟨m',k1,k2,k3,k4⟩:=tail m h5 h6
     exact .inr ⟨m',k1,k2,by rw[k3,h7],fun t=>.inr (by rw[k4];exact h8 t)⟩
   ·exfalso
    rcases h with h | h | h
    ·exact h0 (.inl (Kxd _ h).1)
    ·exact h0 (.inl (Kxe acc (v:=(s.ev ks,s.pf n ks)) h.symm).1)
    ·exact h0 (.inr h)
  ·have e3:stp st acc (s.ev ks,s.pf n ks)=(acc.1,acc.2++s.pf n ks):=by
    unfold stp
    rw[if_neg (show ¬ s.ev ks=st from fun e=>h1.1 e.symm),if_neg h3,if_neg (fun q=>q.elim (fun e=>h2.1 e.symm) (fun e=>h4 e))]
   rw[e3] at hB ⊢
   obtain⟨m,k1,k2,k3,k4⟩:=hs fun e=>h2.1 e.symm
   obtain⟨m2,j1,j2,j3,j4⟩:=hB h1.2 h2.2 h3 h4
   refine⟨m++m2,by simp[k1,j1],k2.app j2,?_,fun t=>?_⟩
   ·rw[j3,Kxb,k3,k1,List.append_assoc]
   ·rw[List.append_assoc,k4,List.drop_left' k1,j4]
end
end Go.Gk
namespace Go.Gk
mutual
def CC.sh:CC→Sh
 | .mk k _ _ _ l=>if k=1 then .leaf else if k=2 then .neg ((CC.shs l).headD .leaf) else .grp (if k=3 then 0 else 1) (CC.shs l)
def CC.shs:List CC→List Sh
 | []=>[]
 | c :: r=>c.sh :: CC.shs r
end
mutual
def CC.lf:CC→List CC
 | .mk k n o v l=>if k=1 then[.mk k n o v l] else CC.lfs l
def CC.lfs:List CC→List CC
 | []=>[]
 | c :: r=>c.lf++CC.lfs r
end
inductive CC.WF:CC→Prop
 | leaf {n o:Str} {v:Lcv} (h:opsB o=true):CC.WF (.mk 1 n o v [])
 | neg {n o:Str} {v:Lcv} {x:CC} (h:x.WF):CC.WF (.mk 2 n o v [x])
 | grp {k:Int} {n o:Str} {v:Lcv} {l:List CC} (hk:k=3∨k=4) (hl:l≠[]) (h:∀ x∈l,x.WF):CC.WF (.mk k n o v l)
theorem Ksu{k:Nat}:∀ {l:List Lcw} (i:Nat),rangeM (σ:=Unit) (ρ:=Int) (fun i44 x46 s45=>bi (Lej k x46) fun y55=>bif (y55:Int) != 0 then(bi (some y55) fun v=>some (.out v)) else(some (.go ()))) i l ()=some (.go ())→∀ x∈l,Lej k x=some 0
 | [],_,_,x,hx=>absurd hx List.not_mem_nil
 | y :: l,i,h,x,hx=>by
  simp only[rangeM] at h
  cases hy:Lej k y with
  | none=>rw[hy] at h;cases h
  | some e=>
   rw[hy,bi_some] at h
   cases he:((e:Int) != 0) with
   | true=>rw[he] at h;cases h
   | false=>
    rw[he] at h
    have e0:e=0:=by simpa using he
    rcases List.mem_cons.1 hx with rfl | hx
    ·rw[hy,e0]
    exact Ksu (i+1) h x hx
theorem Ksv{k:Nat}:∀ {l:List Lcw} (i:Nat) {v:Int},rangeM (σ:=Unit) (ρ:=Int) (fun i44 x46 s45=>bi (Lej k x46) fun y55=>bif (y55:Int) != 0 then(bi (some y55) fun v=>some (.out v)) else(some (.go ()))) i l ()=some (.out v)→v≠0
 | [],_,_,h=>by cases h
 | y :: l,i,v,h=>by
  simp only[rangeM] at h
  cases hy:Lej k y with
  | none=>rw[hy] at h;cases h
  | some e=>
   rw[hy,bi_some] at h
   cases he:((e:Int) != 0) with
   | true=>
    rw[he] at h
    cases h
    simpa using he
   | false=>rw[he] at h;exact Ksv (i+1) h
theorem Ksw{c:Lcw}{ea:Int}(h:leafE c ea=0):opsB c.Op=true:=by
 unfold leafE at h
 cases ho:opsB c.Op with
 | true=>rfl
 | false=>
  rw[ho] at h
  cases hn:nameB c.Name<;>simp[hn] at h
theorem Ksx:∀ (n k:Nat) (c:CC),c.Gd→c.dp≤n→n+50010<k→Lej k c.t=some 0→c.WF
 | 0,k,c,hg,hn,hk,h=>by cases c;simp[CC.dp] at hn
 | n+1,0,c,hg,hn,hk,h=>by omega
 | n+1,k+1,c,hg,hn,hk,h=>by
  have hu:=Kaw c
  cases hg with
  | mk g1 g2 g3=>
   rename_i K nm op v l
   obtain⟨ea,hP,_⟩:=Kbf k (by omega) v g2
   rw[Kbm,Kbo _ _ hu,Kbn k (by omega) (CC.mk K nm op v l).t ea g1 hP,hu] at h
   simp only[Ldw,bi_some,show(CC.mk K nm op v l).t.Kind=K from rfl] at h
   cases ho:(decide ((K:Int)<1)||decide ((K:Int)>4)) with
   | true=>rw[ho] at h;cases h
   | false=>
    rw[ho] at h
    simp only[Bool.or_eq_false_iff,decide_eq_false_iff_not] at ho
    cases hf:formB (CC.mk K nm op v l).t ((CC.mk K nm op v l).kids.map CC.t) with
    | false=>rw[hf] at h;cases h
    | true=>
     rw[hf] at h
     simp only[Bool.not_true,cond_false] at h
     have hq:(K=1→opsB op=true)∧kidsP k ((CC.mk K nm op v l).kids.map CC.t)=some 0:=by
      cases hk1:((K:Int)==1) with
      | false=>
       rw[hk1] at h
       exact⟨fun e=>by subst e;simp at hk1,h⟩
      | true=>
       rw[hk1,cond_true] at h
       by_cases hz:leafE (CC.mk K nm op v l).t ea=0
       ·rw[if_pos hz] at h
        exact⟨fun _=>Ksw hz,h⟩
       rw[if_neg hz] at h
       simp only[orI_inr,Option.some.injEq] at h
       exact absurd h hz
     obtain⟨hop,hkid⟩:=hq
     have hkids:∀ x∈l,x.WF:=fun x hx=>by
      refine Ksx n k x (g3 x hx) (by have:=Kaz (c:=.mk K nm op v l) hx;omega) (by omega) ?_
      unfold kidsP at hkid
      obtain⟨r,hr,h2⟩:=Khz hkid
      cases r with
      | go u=>exact Ksu 0 hr x.t (List.mem_map.2 ⟨x,hx,rfl⟩)
      | out v=>simp only[goI_out,Option.some.injEq] at h2;exact absurd h2 (Ksv 0 hr)
     unfold formB at hf
     simp only[show(CC.mk K nm op v l).t.Kind=K from rfl,show(CC.mk K nm op v l).kids=l from rfl,List.length_map] at hf
     by_cases k1:K=1
     ·subst k1
      simp only[beq_self_eq_true,cond_true] at hf
      have hl:l=[]:=List.eq_nil_of_length_eq_zero (by have:=eq_of_beq hf;omega)
      subst hl
      exact .leaf (hop rfl)
     rw[show((K:Int)==1)=false by simpa using k1,cond_false] at hf
     by_cases k2:K=2
     ·subst k2
      simp only[beq_self_eq_true,cond_true,Bool.and_eq_true,Bool.not_eq_true',bne_eq_false_iff_eq] at hf
      match l,hf,hkids with
      | [x],_,hk=>exact .neg (hk x mCs)
      | [],hf,_=>simp at hf
      | _ :: _ :: _,hf,_=>have:=hf.1;simp at this;omega
     rw[show((K:Int)==2)=false by simpa using k2,cond_false] at hf
     refine .grp (by omega) (fun e=>?_) hkids
     subst e
     simp at hf
theorem Ksy:∀ l:List CC,(∀ x∈l,x.sh.n=x.lf.length∧1≤x.sh.n)→Sh.ns (CC.shs l)=(CC.lfs l).length∧l.length≤Sh.ns (CC.shs l)
 | [],_=>⟨rfl,Nat.le_refl _⟩
 | c :: r,h=>by
  obtain⟨h1,h2⟩:=Ksy r fun x hx=>h x (mCo _ hx)
  obtain⟨h3,h4⟩:=h c mCs
  simp only[CC.shs,Sh.ns,CC.lfs,List.length_append,List.length_cons]
  omega
theorem sh_n{c:CC}(h:c.WF):c.sh.n=c.lf.length∧1≤c.sh.n:=by
 induction h with
 | leaf h=>simp[CC.sh,CC.lf,Sh.n]
 | neg h ih=>
  simp only[CC.sh,CC.lf,CC.shs,CC.lfs,List.headD_cons,Sh.n,List.append_nil]
  exact ih
 | @grp k n o v l hk hl h ih=>
  obtain⟨h1,h2⟩:=Ksy l ih
  have:1≤l.length:=List.length_pos_iff.2 hl
  simp only[CC.sh,CC.lf,if_neg (show ¬ k=1 by omega),if_neg (show ¬ k=2 by omega),Sh.n]
  exact⟨h1,by omega⟩
theorem Ksz:∀ l:List CC,(∀ x∈l,x.sh.ok)→Sh.oks (CC.shs l)
 | [],_=>trivial
 | c :: r,h=>⟨h c mCs,Ksz r fun x hx=>h x (mCo _ hx)⟩
theorem Kta{c:CC}(h:c.WF):c.sh.ok:=by
 induction h with
 | leaf h=>simp[CC.sh,Sh.ok]
 | neg h ih=>simp only[CC.sh,CC.shs,List.headD_cons,Sh.ok];exact ih
 | @grp k n o v l hk hl h ih=>
  simp only[CC.sh,if_neg (show ¬ k=1 by omega),if_neg (show ¬ k=2 by omega),Sh.ok]
  refine⟨?_,Ksz l ih⟩
  by_cases h3:k=3
  ·rw[if_pos h3];exact .inl rfl
  rw[if_neg h3];exact .inr rfl
theorem Ktb(a b:Lcv):∃ y,Lfa a b=some y∧Lgm a b=some (bif (a.Kind:Int) != b.Kind then(0,false) else(y,true)):=by
 obtain⟨y,hy⟩:=Lag ([a.Version.1,a.Version.2.1,a.Version.2.2.1,a.Version.2.2.2]:List Int) ([b.Version.1,b.Version.2.1,b.Version.2.2.1,b.Version.2.2.2]:List Int)
 unfold Lfa Lgm Kyf
 rw[Lmv,hy]
 simp only[bi_some]
 rw[or3]
 simp only[bi_some]
 refine⟨_,rfl,?_⟩
 cases (a.Kind != b.Kind)<;>rfl
def decB(op:Str)(y:Int):Bool:=(Lfb op y).getD false
theorem Ktc{op:Str}(h:opsB op=true)(y:Int):Lfb op y=some (decB op y)∧(mGet (mSet (mSet (mSet (mSet (mSet (mSet ([]:List (Str×Bool)) [61,61] ((y:Int)==0)) [33,61] ((y:Int) != 0)) [60] (decide ((y:Int)<0))) [60,61] (decide ((y:Int)≤0))) [62] (decide ((y:Int)>0))) [62,61] (decide ((y:Int)≥0))) op).getD false=decB op y:=by
 simp only[opsB,List.any_cons,List.any_nil,Bool.or_false,Bool.or_eq_true,beq_iff_eq] at h
 rcases h with rfl | rfl | rfl | rfl | rfl | rfl<;>exact⟨rfl,rfl⟩
def lv(l:List Lcy)(fresh:Int)(node:Str)(v:Int)(c:CC):Int:=(Lgn c.t l fresh node v).getD 2
theorem Ktd{m:List (Lda×(Tl Lcy))}{al:List Bool}{l:List Lcy}{fresh:Int}(hI:InvR al m l)(hl:l.length≤900)(node:Str)(v:Int){c:CC}(ho:opsB c.t.Op=true)(n:Int) :
  (lv l fresh node v c=0∨lv l fresh node v c=1∨lv l fresh node v c=2)∧Lgn c.t l fresh node v=some (lv l fresh node v c)∧
  (bi (Ley ⟨fresh,m⟩ node c.t.Name v) fun y2=>bif ((!y2.2)||((y2.1.Kind:Int) != c.t.Value.Kind)) then(some ((⟨2,[]⟩:Ldc),wi (n+1))) else(bi (Lfa y2.1 c.t.Value) fun y6=>bi (Lfb c.t.Op y6) fun y8=>bif y8 then(some ((⟨1,[n]⟩:Ldc),wi (n+1))) else(some ((⟨0,[n]⟩:Ldc),wi (n+1))))) =
   some ((⟨lv l fresh node v c,if lv l fresh node v c=2 then[] else[n]⟩:Ldc),wi (n+1)):=by
 obtain⟨a,kn,hkn⟩:=Kyo l hl fresh node c.t.Name v
 obtain⟨y,h1,h2⟩:=Ktb a c.t.Value
 obtain⟨d1,d2⟩:=Ktc ho y
 have hJ:Lgn c.t l fresh node v=some (bif ((!kn)||((a.Kind:Int) != c.t.Value.Kind)) then 2 else bif decB c.t.Op y then 1 else 0):=by
  unfold Lgn
  rw[hkn,bi_some,h2,bi_some]
  cases kn with
  | false=>simp
  | true=>
   cases hK:((a.Kind:Int) != c.t.Value.Kind) with
   | true=>simp
   | false=>
    simp only[Bool.not_true,Bool.false_or,cond_false]
    rw[d2]
    cases decB c.t.Op y<;>rfl
 have hv:lv l fresh node v c=bif ((!kn)||((a.Kind:Int) != c.t.Value.Kind)) then 2 else bif decB c.t.Op y then 1 else 0:=by unfold lv;rw[hJ];rfl
 rw[Lad hI hl,hkn,bi_some,hJ,hv,h1,bi_some,d1,bi_some]
 cases ((!kn)||((a.Kind:Int) != c.t.Value.Kind)) with
 | true=>exact⟨.inr (.inr rfl),rfl,rfl⟩
 | false=>
  cases decB c.t.Op y with
  | true=>exact⟨.inr (.inl rfl),rfl,rfl⟩
  | false=>exact⟨.inl rfl,rfl,rfl⟩
end Go.Gk
namespace Go.Gk
theorem Kud:∀ l:List Int,ltB l l=false
 | []=>rfl
 | a :: r=>by simp[ltB,Kud r]
theorem Kue(b:List Int):∀ (l b' pre:List Int),b=pre++b'→l.length=b'.length→
  ∃ r:LS Unit Int,rangeM (σ:=Unit) (ρ:=Int) (fun i1 x4 s3=>bif decide (((i1:Int):Int)≥(b.length:Int)) then(bi (some 1) fun v=>some (.out v)) else(bi (getZ b (i1:Int)) fun x17=>bi (Len x4 x17) fun y19=>bif (y19:Int) != 0 then(bi (some y19) fun v=>some (.out v)) else(some (.go ())))) pre.length l ()=some r∧
   match r with | .go _=>l=b' | .out y=>decide (y<0)=ltB l b'
 | [],[],pre,_,_=>⟨.go (),rfl,rfl⟩
 | [],_ :: _,_,_,h=>by simp at h
 | _ :: _,[],_,_,h=>by simp at h
 | x :: l,c :: b',pre,hb,hl=>by
  have hc:b[pre.length]?=some c:=by rw[hb];simp
  have hlt:=(gEs.1 hc).1
  simp only[rangeM]
  rw[dF (show ¬ (pre.length:Int)≥(b.length:Int) by omega),cond_false,Lcb hc,bi_some,Lmv,bi_some]
  unfold cI
  by_cases h1:x<c
  ·rw[if_pos h1]
   refine⟨.out (-1),rfl,?_⟩
   simp[ltB,h1]
  ·rw[if_neg h1]
   by_cases h2:x>c
   ·rw[if_pos h2]
    refine⟨.out 1,rfl,?_⟩
    simp only[ltB]
    rw[dF h1,dF (show ¬ x=c by omega)]
    rfl
   ·rw[if_neg h2]
    have e:x=c:=by omega
    subst e
    obtain⟨r,h3,h4⟩:=Kue b l b' (pre++[x]) (by simp[hb]) (by simpa using hl)
    rw[List.length_append,List.length_singleton] at h3
    refine⟨r,h3,?_⟩
    cases r with
    | go u=>simp only at h4 ⊢;rw[h4]
    | out y=>
     simp only at h4 ⊢
     rw[h4]
     simp[ltB]
theorem Kuf{a b:List Int}(h:a.length=b.length):∃ y,Lez a b=some y∧decide (y<0)=ltB a b:=by
 obtain⟨r,h1,h2⟩:=Kue b a b [] rfl h
 rw[List.length_nil] at h1
 unfold Lez
 rw[h1,bi_some]
 cases r with
 | go u=>
  simp only at h2
  subst h2
  refine⟨0,?_,by rw[Kud];rfl⟩
  simp[goI]
 | out y=>exact⟨y,rfl,h2⟩
theorem or2(x y:Int):Leo [x,y]=some (if x≠0 then x else y):=by
 unfold Leo
 simp only[rangeM,bi_some]
 by_cases hx:x=0
 ·subst hx
  by_cases hy:y=0
  ·subst hy;rfl
  rw[show((0:Int) != 0)=false from rfl,show((y:Int) != 0)=true by simpa using hy]
  simp
 rw[show((x:Int) != 0)=true by simpa using hx]
 simp[hx]
theorem Kug(a b:List Int):Lfc a b=some (shB a b):=by
 unfold Lfc shB
 rw[Lmv,bi_some]
 unfold cI
 by_cases h1:(a.length:Int)<(b.length:Int)
 ·obtain⟨y,hy⟩:=Lag a b
  rw[if_pos h1,hy,bi_some,or2,bi_some,dT (show a.length<b.length by omega)]
  rfl
 rw[if_neg h1,dF (show ¬ a.length<b.length by omega)]
 by_cases h2:(a.length:Int)>(b.length:Int)
 ·obtain⟨y,hy⟩:=Lag a b
  rw[if_pos h2,hy,bi_some,or2,bi_some,dF (show ¬ a.length=b.length by omega)]
  rfl
 obtain⟨y,hy,h3⟩:=Kuf (a:=a) (b:=b) (by omega)
 rw[if_neg h2,hy,bi_some,or2,bi_some,dT (show a.length=b.length by omega),Bool.false_or,Bool.true_and,←h3]
 rfl
theorem Kuh(st:Int)(acc v:Int×List Int):(stp st acc v).2.length≤acc.2.length+v.2.length:=by
 unfold stp
 split
 ·split<;>omega
 split
 ·omega
 split
 ·simp
 simp
mutual
theorem Kui:∀ (s:Sh) (n:Int) (ks:List Int),(s.pf n ks).length≤s.n
 | .leaf,n,ks=>by simp only[Sh.pf,Sh.n];split<;>simp
 | .neg s,n,ks=>by simp only[Sh.pf,Sh.n];exact Kui s n ks
 | .grp st l,n,ks=>by
  simp only[Sh.pf,Sh.n]
  have:=Kuj st l n ks (1 - st,[])
  simpa using this
theorem Kuj(st:Int):∀ (l:List Sh) (n:Int) (ks:List Int) (acc:Int×List Int),(Sh.pfs st l n ks acc).2.length≤acc.2.length+Sh.ns l
 | [],n,ks,acc=>by simp only[Sh.pfs,Sh.ns];omega
 | s :: r,n,ks,acc=>by
  simp only[Sh.pfs,Sh.ns]
  have h1:=Kuj st r (n+s.n) (ks.drop s.n) (stp st acc (s.ev ks,s.pf n ks))
  have h2:=Kuh st acc (s.ev ks,s.pf n ks)
  have h3:=Kui s n ks
  simp only at h2
  omega
end
def stepA(rc:Lcw→Int→Option (Ldc×Int))(strong:Int)(x5:Lcw)(s4:Int×Ldc):Option (Int×Ldc):=
 bi (rc x5 s4.1) fun y14=>bif (y14.1.is:Int)==strong then(bi (bif (s4.2.is:Int) != strong then(some true) else(bi (Lfc y14.1.proof s4.2.proof) fun y21=>some y21)) fun q17=>bif q17 then(some (y14.2,y14.1)) else(some (y14.2,s4.2))) else(bif (s4.2.is:Int)==strong then(some (y14.2,s4.2)) else(bif (((y14.1.is:Int)==2)||((s4.2.is:Int)==2)) then(some (y14.2,(⟨2,[]⟩:Ldc))) else(bi (Lfd s4.2.proof) fun y30=>bi (apd y30 y14.1.proof) fun y32=>some (y14.2,(⟨s4.2.is,y32⟩:Ldc)))))
theorem Kuk(rc:Ldb→Lcw→Str→Int→Int→Option (Ldc×Int))(v_r:Ldb)(c:Lcw)(node:Str)(v_at n weak strong:Int) :
  Lfe rc v_r c node v_at n weak strong=bi (unK d_api_Cond 11 c.Kids) fun l1=>bi (rangeF (σ:=Int×Ldc) (fun i3 x5 s4=>stepA (fun c n=>rc v_r c node v_at n) strong x5 s4) 0 l1 (n,(⟨weak,[]⟩:Ldc))) fun q6=>some (q6.2,q6.1):=rfl
theorem Kul{rc:Lcw→Int→Option (Ldc×Int)}{st:Int}{x:Lcw}{n n' a v:Int}{p q:List Int}(h:rc x n=some (⟨v,q⟩,n'))(hb:p.length+q.length≤4000000) :
  stepA rc st x (n,⟨a,p⟩)=some (n',⟨(stp st (a,p) (v,q)).1,(stp st (a,p) (v,q)).2⟩):=by
 unfold stepA stp
 simp only[h,bi_some]
 by_cases h1:v=st
 ·rw[if_pos h1,show((v:Int)==st)=true by simpa using h1,cond_true]
  by_cases h2:a=st
  ·rw[show((a:Int) != st)=false by simpa using h2,cond_false,Kug,bi_some,bi_some]
   cases hs:shB q p with
   | true=>rw[if_pos (.inr rfl)];rfl
   | false=>rw[if_neg (fun q=>q.elim (fun e=>e h2) (fun e=>by cases e))];rfl
  ·rw[show((a:Int) != st)=true by simpa using h2,cond_true,bi_some,cond_true,if_pos (.inl h2)]
 ·rw[if_neg h1,show((v:Int)==st)=false by simpa using h1,cond_false]
  by_cases h2:a=st
  ·rw[if_pos h2,show((a:Int)==st)=true by simpa using h2,cond_true]
  ·rw[if_neg h2,show((a:Int)==st)=false by simpa using h2,cond_false]
   by_cases h3:v=2∨a=2
   ·rw[if_pos h3,show(((v:Int)==2)||((a:Int)==2))=true by simpa using h3,cond_true]
   ·rw[if_neg h3,show(((v:Int)==2)||((a:Int)==2))=false by simpa using h3,cond_false]
    unfold Lfd
    rw[Lbe (by simp;omega),bi_some,bi_some,List.nil_append,Lbe (by omega),bi_some]
theorem Kum{rc:Lcw→Int→Option (Ldc×Int)}{f:CC→Int}(st:Int):∀ (L:List CC) (i:Nat) (n a:Int) (p t:List Int),
  (∀ x∈L,x.WF)→(∀ x∈L,∀ (n:Int) (t:List Int),0≤n→n+x.sh.n≤1000000→rc x.t n=some (⟨x.sh.ev (x.lf.map f++t),x.sh.pf n (x.lf.map f++t)⟩,n+x.sh.n))→
  0≤n→n+Sh.ns (CC.shs L)≤1000000→p.length+Sh.ns (CC.shs L)≤1000000→
  rangeF (σ:=Int×Ldc) (fun i3 x5 s4=>stepA rc st x5 s4) i (L.map CC.t) (n,⟨a,p⟩) =
   some (n+Sh.ns (CC.shs L),⟨(Sh.pfs st (CC.shs L) n ((CC.lfs L).map f++t) (a,p)).1,(Sh.pfs st (CC.shs L) n ((CC.lfs L).map f++t) (a,p)).2⟩)
 | [],i,n,a,p,t,_,_,_,_,_=>by simp[rangeF,CC.shs,Sh.ns,Sh.pfs]
 | x :: L,i,n,a,p,t,hw,hr,h0,h1,h2=>by
  simp only[CC.shs,Sh.ns,CC.lfs,List.map_append,List.append_assoc,Sh.pfs,List.map_cons,rangeF] at h1 h2 ⊢
  have hx:=hr x mCs n ((CC.lfs L).map f++t) h0 (by omega)
  have hpl:=Kui x.sh n (x.lf.map f++((CC.lfs L).map f++t))
  rw[Kul hx (by omega),bi_some]
  have hd:(x.lf.map f++((CC.lfs L).map f++t)).drop x.sh.n=(CC.lfs L).map f++t:=List.drop_left' (by rw[List.length_map,(sh_n (hw x mCs)).1])
  have hsl:=Kuh st (a,p) (x.sh.ev (x.lf.map f++((CC.lfs L).map f++t)),x.sh.pf n (x.lf.map f++((CC.lfs L).map f++t)))
  simp only at hsl
  rw[Kum st L (i+1) (n+x.sh.n) _ _ t (fun y hy=>hw y (mCo _ hy)) (fun y hy=>hr y (mCo _ hy)) (by omega) (by omega) (by omega),hd]
  congr 2
  omega
theorem Kun{m:List (Lda×(Tl Lcy))}{al:List Bool}{l:List Lcy}(hI:InvR al m l)(hl:l.length≤900)(fresh:Int)(node:Str)(v:Int):∀ (N k:Nat) (c:CC) (n:Int) (t:List Int),
  c.WF→c.dp≤N→N<k→0≤n→n+c.sh.n≤1000000→
  Lff k ⟨fresh,m⟩ c.t node v n=some (⟨c.sh.ev (c.lf.map (lv l fresh node v)++t),c.sh.pf n (c.lf.map (lv l fresh node v)++t)⟩,n+c.sh.n)
 | 0,k,c,n,t,_,hd,_,_,_=>by cases c;simp[CC.dp] at hd
 | N+1,0,c,n,t,_,_,hk,_,_=>by omega
 | N+1,k+1,c,n,t,hw,hd,hk,h0,h1=>by
  have hu:=Kaw c
  cases hw with
  | @leaf nm op va ho=>
   simp only[CC.sh,if_true,Sh.n] at h1
   have hL:=(Ktd (fresh:=fresh) hI hl node v (c:=CC.mk 1 nm op va []) ho n).2.2
   simp only[Lff,show(CC.mk 1 nm op va []).t.Kind=1 from rfl,beq_self_eq_true,cond_true]
   rw[hL]
   simp only[CC.sh,if_true,CC.lf,List.map_cons,List.map_nil,List.cons_append,List.nil_append,Sh.ev,Sh.pf,Sh.n,List.headD_cons]
   rw[Law (by omega) (by omega)]
   rfl
  | @neg nm op va x hx=>
   simp only[CC.sh,CC.shs,List.headD_cons,show ¬ (2:Int)=1 by decide,if_false,if_true,Sh.n] at h1 ⊢
   have hj:=Kun hI hl fresh node v N k x n t hx (by have:=Kaz (c:=CC.mk 2 nm op va [x]) (x:=x) mCs;omega) (by omega) h0 h1
   simp only[Lff,show(CC.mk 2 nm op va [x]).t.Kind=2 from rfl,show((2:Int)==1)=false from rfl,cond_false,beq_self_eq_true,cond_true]
   rw[hu,bi_some,show(CC.mk 2 nm op va [x]).kids.map CC.t=[x.t] from rfl,show getZ [x.t] 0=some x.t from rfl,bi_some,hj,bi_some]
   simp only[CC.lf,CC.lfs,List.append_nil,show ¬ (2:Int)=1 by decide,if_false,Sh.ev,Sh.pf]
   generalize x.sh.ev (x.lf.map (lv l fresh node v)++t)=z
   unfold neg3
   by_cases z1:z=1
   ·rw[show((z:Int)==1)=true by simpa using z1,if_pos z1];rfl
   ·rw[show((z:Int)==1)=false by simpa using z1,if_neg z1]
    by_cases z0:z=0
    ·rw[show((z:Int)==0)=true by simpa using z0,if_pos z0];rfl
    ·rw[show((z:Int)==0)=false by simpa using z0,if_neg z0];rfl
  | @grp K nm op va L hK hne hx=>
   have e1:¬ K=1:=by omega
   have e2:¬ K=2:=by omega
   simp only[CC.sh,if_neg e1,if_neg e2,Sh.n] at h1 ⊢
   simp only[CC.lf,if_neg e1,Sh.ev,Sh.pf]
   have hj:∀ x∈L,∀ (n:Int) (t:List Int),0≤n→n+x.sh.n≤1000000→(fun c n=>Lff k ⟨fresh,m⟩ c node v n) x.t n=some (⟨x.sh.ev (x.lf.map (lv l fresh node v)++t),x.sh.pf n (x.lf.map (lv l fresh node v)++t)⟩,n+x.sh.n):=
    fun x hm n t g0 g1=>Kun hI hl fresh node v N k x n t (hx x hm) (by have:=Kaz (c:=CC.mk K nm op va L) (x:=x) hm;omega) (by omega) g0 g1
   simp only[Lff,show(CC.mk K nm op va L).t.Kind=K from rfl,show((K:Int)==1)=false by simpa using e1,show((K:Int)==2)=false by simpa using e2,cond_false]
   rw[Kuk,Kuk,hu,bi_some,bi_some,show(CC.mk K nm op va L).kids=L from rfl]
   rcases hK with rfl | rfl
   ·rw[Kum 0 L 0 n 1 [] t hx hj h0 h1 (by simp;omega),bi_some,bi_some]
    simp only[if_true,beq_self_eq_true,cond_true]
    have he:=Kxh (st:=0) (.inl rfl) (CC.shs L) n ((CC.lfs L).map (lv l fresh node v)++t)
    simp only[Sh.ev] at he
    rw[←he]
    rfl
   ·rw[Kum 1 L 0 n 0 [] t hx hj h0 h1 (by simp;omega),bi_some,bi_some]
    simp only[show ¬ (4:Int)=3 by decide,if_false,show((4:Int)==3)=false from rfl,cond_false]
    have he:=Kxh (st:=1) (.inr rfl) (CC.shs L) n ((CC.lfs L).map (lv l fresh node v)++t)
    simp only[Sh.ev] at he
    rw[←he]
    rfl
theorem Lms(l:List Int)(s:Int):Lgq l s=some (decide (s∈l)):=by
 have hd:decide (s∈l)=l.any fun x=>(s:Int)==x:=by
  rw[Bool.eq_iff_iff]
  simp
 unfold Lgq Lgp
 rcases Kbg (f:=fun i1 (x3:Int) s2=>bif (s:Int)==x3 then(bi (some (i1:Int)) fun v=>some (.out v)) else(some (.go ()))) (fun x=>(s:Int)==x) (fun i x=>by cases h:((s:Int)==x)<;>rfl) l 0 with⟨h1,h2⟩ | ⟨h1,v,h2,h3⟩
 ·rw[h2,hd,h1];rfl
 rw[h3,hd,h1]
 show some (decide (v≥0))=_
 rw[dT h2]
def in3(x:Int):Prop:=x=0∨x=1∨x=2
mutual
theorem ev_3:∀ (s:Sh) (ks:List Int),s.ok→(∀ x∈ks,in3 x)→in3 (s.ev ks)
 | .leaf,ks,_,h=>by
  simp only[Sh.ev]
  cases ks with
  | nil=>exact .inr (.inr rfl)
  | cons a r=>exact h a mCs
 | .neg s,ks,ho,h=>by
  simp only[Sh.ev]
  have:=ev_3 s ks (by simpa only[Sh.ok] using ho) h
  unfold neg3 in3 at *
  split
  ·exact .inl rfl
  split
  ·exact .inr (.inl rfl)
  exact this
 | .grp st l,ks,ho,h=>by
  simp only[Sh.ok] at ho
  simp only[Sh.ev,cmb]
  unfold in3
  split
  ·omega
  split
  ·omega
  omega
end
theorem Kuo:∀ (N k:Nat) (c:CC),c.WF→c.dp≤N→N<k→c.sh.n≤1000000→Lfn k c.t=some (c.sh.n:Int)
 | 0,k,c,_,hd,_,_=>by cases c;simp[CC.dp] at hd
 | N+1,0,c,_,_,hk,_=>by omega
 | N+1,k+1,c,hw,hd,hk,hb=>by
  have hu:=Kaw c
  have loop:∀ (L:List CC) (i:Nat) (a:Nat),(∀ x∈L,x.sh.n≤1000000→Lfn k x.t=some (x.sh.n:Int))→a+Sh.ns (CC.shs L)≤1000000→rangeF (σ:=Int) (fun i7 x9 s8=>bi (Lfn k x9) fun y18=>some (wi (s8+y18))) i (L.map CC.t) (a:Int)=some ((a+Sh.ns (CC.shs L):Nat):Int):=by
   intro L
   induction L with
   | nil=>intro i a _ _;simp[rangeF,CC.shs,Sh.ns]
   | cons x L ih=>
    intro i a hx hb
    simp only[CC.shs,Sh.ns] at hb ⊢
    simp only[List.map_cons,rangeF]
    rw[hx x mCs (by omega),bi_some,bi_some,Law (by omega) (by omega)]
    have:=ih (i+1) (a+x.sh.n) (fun y hy=>hx y (mCo _ hy)) (by omega)
    rw[show((a:Int)+(x.sh.n:Int))=((a+x.sh.n:Nat):Int) by omega,this]
    congr 1
    omega
  cases hw with
  | @leaf nm op va ho=>
   simp only[Lfn,show(CC.mk 1 nm op va []).t.Kind=1 from rfl,beq_self_eq_true,cond_true,bi_some]
   rw[hu,bi_some]
   simp[CC.kids,rangeF,CC.sh,Sh.n]
  | @neg nm op va x hx=>
   simp only[CC.sh,CC.shs,List.headD_cons,show ¬ (2:Int)=1 by decide,if_false,if_true,Sh.n] at hb ⊢
   have hj:=Kuo N k x hx (by have:=Kaz (c:=CC.mk 2 nm op va [x]) (x:=x) mCs;omega) (by omega)
   simp only[Lfn,show(CC.mk 2 nm op va [x]).t.Kind=2 from rfl,show((2:Int)==1)=false from rfl,cond_false,bi_some]
   rw[hu,bi_some,show(CC.mk 2 nm op va [x]).kids=[x] from rfl]
   have:=loop [x] 0 0 (fun y hy=>by rw[List.mem_singleton.1 hy];exact hj) (by simp only[CC.shs,Sh.ns];omega)
   simp only[Int.ofNat_zero,CC.shs,Sh.ns,Nat.zero_add,Nat.add_zero] at this
   rw[this];rfl
  | @grp K nm op va L hK hne hx=>
   have e1:¬ K=1:=by omega
   have e2:¬ K=2:=by omega
   simp only[CC.sh,if_neg e1,if_neg e2,Sh.n] at hb ⊢
   simp only[Lfn,show(CC.mk K nm op va L).t.Kind=K from rfl,show((K:Int)==1)=false by simpa using e1,cond_false,bi_some]
   rw[hu,bi_some,show(CC.mk K nm op va L).kids=L from rfl]
   have:=loop L 0 0 (fun y hy=>Kuo N k y (hx y hy) (by have:=Kaz (c:=CC.mk K nm op va L) (x:=y) hy;omega) (by omega)) (by omega)
   rw[show((0:Nat):Int)=0 from rfl,Nat.zero_add] at this
   rw[this];rfl
theorem Kup(kn:List Int)(h3:∀ x∈kn,in3 x)(hkl:kn.length≤1000000):∀ (N k:Nat) (c:CC) (n:Nat),c.WF→c.dp≤N→N<k→n+c.sh.n≤kn.length→Lgr k c.t kn (n:Int)=some (c.sh.ev (kn.drop n))
 | 0,k,c,n,_,hd,_,_=>by cases c;simp[CC.dp] at hd
 | N+1,0,c,n,_,_,hk,_=>by omega
 | N+1,k+1,c,n,hw,hd,hk,hb=>by
  have hu:=Kaw c
  have hin:∀ (s:Sh) (n:Nat),s.ok→in3 (s.ev (kn.drop n)):=fun s n ho=>ev_3 s _ ho fun x hx=>h3 x (List.mem_of_mem_drop hx)
  have loop:∀ (L:List CC) (i:Nat) (acc:List Int) (a:Nat),(∀ x∈L,x.WF)→(∀ x∈L,x.sh.n≤1000000→Lfn k x.t=some (x.sh.n:Int))→(∀ x∈L,∀ n,n+x.sh.n≤kn.length→Lgr k x.t kn (n:Int)=some (x.sh.ev (kn.drop n)))→
    a+Sh.ns (CC.shs L)≤kn.length→acc.length+L.length≤4000000→
    rangeF (σ:=(List Int)×Int) (fun i7 x9 s8=>bi (Lgr k x9 kn s8.2) fun y18=>bi (apd s8.1 [y18]) fun y20=>bi (Lfn k x9) fun y22=>some (y20,wi (s8.2+y22))) i (L.map CC.t) (acc,(a:Int))=some (acc++Sh.evs (CC.shs L) (kn.drop a),((a+Sh.ns (CC.shs L):Nat):Int)):=by
   intro L
   induction L with
   | nil=>intro i acc a _ _ _ _ _;simp[rangeF,CC.shs,Sh.ns,Sh.evs]
   | cons x L ih=>
    intro i acc a hw hlv hx hb hal
    simp only[CC.shs,Sh.ns,Sh.evs,List.length_cons] at hb hal ⊢
    simp only[List.map_cons,rangeF]
    rw[hx x mCs a (by omega),bi_some,Lbe (by simp;omega),bi_some,hlv x mCs (by omega),bi_some,bi_some,Law (by omega) (by omega)]
    have:=ih (i+1) (acc++[x.sh.ev (kn.drop a)]) (a+x.sh.n) (fun y hy=>hw y (mCo _ hy)) (fun y hy=>hlv y (mCo _ hy)) (fun y hy=>hx y (mCo _ hy)) (by omega) (by simp;omega)
    rw[show((a:Int)+(x.sh.n:Int))=((a+x.sh.n:Nat):Int) by omega,this,List.drop_drop]
    simp only[List.append_assoc,List.cons_append,List.nil_append]
    congr 2
    omega
  cases hw with
  | @leaf nm op va ho=>
   simp only[CC.sh,if_true,Sh.n] at hb
   simp only[Lgr,show(CC.mk 1 nm op va []).t.Kind=1 from rfl,beq_self_eq_true,cond_true,CC.sh,if_true,Sh.ev]
   have hx:kn[n]?=some kn[n]:=gGe (by omega)
   rw[Lcb hx,bi_some]
   congr 1
   rw[List.drop_eq_getElem_cons (by omega)]
   rfl
  | @neg nm op va x hx=>
   simp only[CC.sh,CC.shs,List.headD_cons,show ¬ (2:Int)=1 by decide,if_false,if_true,Sh.n] at hb ⊢
   have hdx:x.dp≤N:=by have:=Kaz (c:=CC.mk 2 nm op va [x]) (x:=x) mCs;omega
   have hj:=fun n h=>Kup kn h3 hkl N k x n hx hdx (by omega) h
   have hlf:=Kuo N k x hx hdx (by omega)
   simp only[Lgr,show(CC.mk 2 nm op va [x]).t.Kind=2 from rfl,show((2:Int)==1)=false from rfl,cond_false]
   rw[hu,bi_some,show(CC.mk 2 nm op va [x]).kids=[x] from rfl,loop [x] 0 [] n (fun y hy=>by rw[List.mem_singleton.1 hy];exact hx) (fun y hy=>by rw[List.mem_singleton.1 hy];exact hlf) (fun y hy=>by rw[List.mem_singleton.1 hy];exact hj) (by simp only[CC.shs,Sh.ns];omega) (by simp)]
   simp only[bi_some,beq_self_eq_true,cond_true,List.nil_append,CC.shs,Sh.evs,Sh.ev]
   have hz:=hin x.sh n (Kta hx)
   generalize x.sh.ev (kn.drop n)=z at hz
   rcases hz with rfl | rfl | rfl<;>rfl
  | @grp K nm op va L hK hne hx=>
   have e1:¬ K=1:=by omega
   have e2:¬ K=2:=by omega
   have hln:L.length≤Sh.ns (CC.shs L):=(Ksy L fun x hm=>sh_n (hx x hm)).2
   simp only[CC.sh,if_neg e1,if_neg e2,Sh.n] at hb ⊢
   have hdx:∀ x∈L,x.dp≤N:=fun x hm=>by have:=Kaz (c:=CC.mk K nm op va L) (x:=x) hm;omega
   simp only[Lgr,show(CC.mk K nm op va L).t.Kind=K from rfl,show((K:Int)==1)=false by simpa using e1,show((K:Int)==2)=false by simpa using e2,cond_false]
   rw[hu,bi_some,show(CC.mk K nm op va L).kids=L from rfl,loop L 0 [] n hx (fun x hm=>Kuo N k x (hx x hm) (hdx x hm) (by omega)) (fun x hm n h=>Kup kn h3 hkl N k x n (hx x hm) (hdx x hm) (by omega) h) hb (by simp;omega)]
   simp only[bi_some,List.nil_append,Sh.ev,cmb,Lms]
   rcases hK with rfl | rfl
   ·rw[show((3:Int)==4)=false from rfl]
    simp only[cond_false,bi_some,orI_inl,if_true]
    by_cases g1:(0:Int)∈Sh.evs (CC.shs L) (kn.drop n)
    ·rw[dT g1,if_pos g1];rfl
    rw[dF g1,if_neg g1]
    by_cases g2:(2:Int)∈Sh.evs (CC.shs L) (kn.drop n)
    ·rw[dT g2,if_pos g2];rfl
    rw[dF g2,if_neg g2];rfl
   rw[show((4:Int)==4)=true from rfl]
   simp only[cond_true,bi_some,orI_inl,show ¬ (4:Int)=3 by decide,if_false]
   by_cases g1:(1:Int)∈Sh.evs (CC.shs L) (kn.drop n)
   ·rw[dT g1,if_pos g1];rfl
   rw[dF g1,if_neg g1]
   by_cases g2:(2:Int)∈Sh.evs (CC.shs L) (kn.drop n)
   ·rw[dT g2,if_pos g2];rfl
   rw[dF g2,if_neg g2];rfl
theorem Kuq:∀ (N k:Nat) (c:CC),c.WF→c.dp≤N→N<k→c.lf.length≤1000000→Lgk k c.t=some (c.lf.map CC.t)
 | 0,k,c,_,hd,_,_=>by cases c;simp[CC.dp] at hd
 | N+1,0,c,_,_,hk,_=>by omega
 | N+1,k+1,c,hw,hd,hk,hb=>by
  have hu:=Kaw c
  have loop:∀ (L:List CC) (i:Nat) (acc:List CC),(∀ x∈L,x.lf.length≤1000000→Lgk k x.t=some (x.lf.map CC.t))→acc.length+(CC.lfs L).length≤1000000→
    rangeF (σ:=List Lcw) (fun i5 x7 s6=>bi (Lgk k x7) fun y16=>bi (apd s6 y16) fun y18=>some y18) i (L.map CC.t) (acc.map CC.t)=some ((acc++CC.lfs L).map CC.t):=by
   intro L
   induction L with
   | nil=>intro i acc _ _;simp[rangeF,CC.lfs]
   | cons x L ih=>
    intro i acc hx hb
    simp only[CC.lfs,List.length_append] at hb ⊢
    simp only[List.map_cons,rangeF]
    rw[hx x mCs (by omega),bi_some,Lbe (by simp;omega),bi_some,bi_some,←List.map_append]
    rw[ih (i+1) (acc++x.lf) (fun y hy=>hx y (mCo _ hy)) (by simp;omega),List.append_assoc]
  cases hw with
  | @leaf nm op va ho=>
   simp only[Lgk,show(CC.mk 1 nm op va []).t.Kind=1 from rfl,beq_self_eq_true,cond_true,CC.lf,if_true,List.map_cons,List.map_nil]
  | @neg nm op va x hx=>
   simp only[CC.lf,CC.lfs,List.append_nil,show ¬ (2:Int)=1 by decide,if_false] at hb ⊢
   have hj:=Kuq N k x hx (by have:=Kaz (c:=CC.mk 2 nm op va [x]) (x:=x) mCs;omega) (by omega)
   simp only[Lgk,show(CC.mk 2 nm op va [x]).t.Kind=2 from rfl,show((2:Int)==1)=false from rfl,cond_false]
   rw[hu,bi_some,show(CC.mk 2 nm op va [x]).kids=[x] from rfl]
   have:=loop [x] 0 [] (fun y hy=>by rw[List.mem_singleton.1 hy];exact hj) (by simp[CC.lfs];omega)
   rw[List.map_nil] at this
   rw[this]
   simp[CC.lfs]
  | @grp K nm op va L hK hne hx=>
   have e1:¬ K=1:=by omega
   simp only[CC.lf,if_neg e1] at hb ⊢
   simp only[Lgk,show(CC.mk K nm op va L).t.Kind=K from rfl,show((K:Int)==1)=false by simpa using e1,cond_false]
   rw[hu,bi_some,show(CC.mk K nm op va L).kids=L from rfl]
   have:=loop L 0 [] (fun y hy=>Kuq N k y (hx y hy) (by have:=Kaz (c:=CC.mk K nm op va L) (x:=y) hy;omega) (by omega)) (by simpa using hb)
   rw[List.map_nil] at this
   rw[this]
   simp
theorem Kur:∀ {c:CC},c.WF→∀ x∈c.lf,opsB x.t.Op=true:=by
 intro c h
 induction h with
 | @leaf nm op va ho=>intro x hx;simp only[CC.lf,if_true,List.mem_singleton] at hx;subst hx;exact ho
 | neg h ih=>intro x hx;simp only[CC.lf,CC.lfs,List.append_nil,show ¬ (2:Int)=1 by decide,if_false] at hx;exact ih x hx
 | @grp k n o v l hk hl h ih=>
  intro x hx
  simp only[CC.lf,if_neg (show ¬ k=1 by omega)] at hx
  have:∀ L:List CC,(∀ y∈L,y∈l)→x∈CC.lfs L→opsB x.t.Op=true:=by
   intro L
   induction L with
   | nil=>intro _ hx;simp[CC.lfs] at hx
   | cons y L ihL=>
    intro hs hx
    simp only[CC.lfs,List.mem_append] at hx
    rcases hx with hx | hx
    ·exact ih y (hs y mCs) x hx
    exact ihL (fun z hz=>hs z (mCo _ hz)) hx
  exact this l (fun y hy=>hy) hx
section
variable{m:List (Lda×(Tl Lcy))}{al:List Bool}{l:List Lcy}(hI:InvR al m l)(hl:l.length≤900)(fresh:Int)
include hI hl
theorem Kus(node:Str)(v:Int)(k:Nat)(c:CC)(hw:c.WF)(hk:c.dp<k)(hb:c.lf.length≤1000000):Lgo k c.t l fresh node v=some (c.lf.map (lv l fresh node v))∧∀ x∈c.lf.map (lv l fresh node v),in3 x:=by
 have h3:∀ x∈c.lf,in3 (lv l fresh node v x)∧Lgn x.t l fresh node v=some (lv l fresh node v x):=fun x hx=>by
  obtain⟨h1,h2,_⟩:=Ktd (fresh:=fresh) hI hl node v (Kur hw x hx) 0
  exact⟨h1,h2⟩
 refine⟨?_,fun x hx=>by obtain⟨y,hy,rfl⟩:=List.mem_map.1 hx;exact(h3 y hy).1⟩
 unfold Lgo
 rw[Kuq c.dp k c hw (Nat.le_refl _) hk hb,bi_some]
 have loop:∀ (L:List CC) (i:Nat) (acc:List Int),(∀ x∈L,Lgn x.t l fresh node v=some (lv l fresh node v x))→acc.length+L.length≤1000000→
   rangeF (σ:=List Int) (fun i3 x5 s4=>bi (Lgn x5 l fresh node v) fun y14=>bi (apd s4 [y14]) fun y16=>some y16) i (L.map CC.t) acc=some (acc++L.map (lv l fresh node v)):=by
  intro L
  induction L with
  | nil=>intro i acc _ _;simp[rangeF]
  | cons x L ih=>
   intro i acc hx hb
   simp only[List.length_cons] at hb
   simp only[List.map_cons,rangeF]
   rw[hx x mCs,bi_some,Lbe (by simp;omega),bi_some,bi_some,ih (i+1) _ (fun y hy=>hx y (mCo _ hy)) (by simp;omega)]
   simp
 rw[loop c.lf 0 [] (fun x hx=>(h3 x hx).2) (by simpa using hb)]
 simp
theorem Kut(node:Str)(v:Int)(k:Nat)(c:CC)(hw:c.WF)(hk:c.dp<k)(hb:c.lf.length≤1000000):Lgs k c.t l fresh node v=some (c.sh.ev (c.lf.map (lv l fresh node v))):=by
 obtain⟨h1,h2⟩:=Kus hI hl fresh node v k c hw hk hb
 unfold Lgs
 rw[h1,bi_some]
 have:=Kup (c.lf.map (lv l fresh node v)) h2 (by simpa using hb) c.dp k c 0 hw (Nat.le_refl _) hk (by rw[Nat.zero_add,List.length_map,(sh_n hw).1];exact Nat.le_refl _)
 rw[show((0:Nat):Int)=0 from rfl,List.drop_zero] at this
 rw[this];rfl
theorem Kuu(node:Str)(v:Int)(k:Nat)(c:CC)(hw:c.WF)(hk:c.dp<k)(hb:c.lf.length≤1000000) :
  Lff k ⟨fresh,m⟩ c.t node v 0=some (⟨c.sh.ev (c.lf.map (lv l fresh node v)),c.sh.pf 0 (c.lf.map (lv l fresh node v))⟩,(c.sh.n:Int)):=by
 have:=Kun hI hl fresh node v c.dp k c 0 [] hw (Nat.le_refl _) hk (by decide) (by rw[(sh_n hw).1];omega)
 rw[List.append_nil,Int.zero_add] at this
 exact this
theorem Kuv(node:Str)(v:Int)(k:Nat)(c:CC)(hw:c.WF)(hk:c.dp<k)(hb:c.lf.length≤1000000) :
  Lfl k ⟨fresh,m⟩ c.t node v=some (c.sh.ev (c.lf.map (lv l fresh node v))):=by
 unfold Lfl
 rw[Kuu hI hl fresh node v k c hw hk hb];rfl
end
end Go.Gk
namespace Go.Gk
def fxL(S:List Int):Int→List Int→List Int
 | _,[]=>[]
 | n,a :: r=>(if n∈S then a else 2) :: fxL S (n+1) r
theorem Kvs(S:List Int):∀ (n:Int) (ks:List Int),(fxL S n ks).length=ks.length
 | _,[]=>rfl
 | n,a :: r=>by simp only[fxL,List.length_cons,Kvs S (n+1) r]
theorem Kvt(S:List Int):∀ (n:Int) (ks:List Int),Le3 (fxL S n ks) ks
 | _,[]=>trivial
 | n,a :: r=>by
  simp only[fxL]
  refine⟨?_,Kvt S (n+1) r⟩
  split
  ·exact .inl rfl
  exact .inr rfl
theorem Kvu{S:List Int}:∀ {n:Int} {ks:List Int},(∀ x∈ks,in3 x)→∀ x∈fxL S n ks,in3 x
 | _,[],_,x,hx=>by simp[fxL] at hx
 | n,a :: r,h,x,hx=>by
  simp only[fxL,List.mem_cons] at hx
  rcases hx with rfl | hx
  ·split
   ·exact h a mCs
   exact .inr (.inr rfl)
  exact Kvu (fun y hy=>h y (mCo _ hy)) x hx
theorem Kvv(S:List Int):∀ (n:Int) (ks:List Int) (i:Nat),(fxL S n ks)[i]?=(ks[i]?).map fun a=>if n+i∈S then a else 2
 | _,[],i=>by simp[fxL]
 | n,a :: r,0=>by simp[fxL]
 | n,a :: r,i+1=>by
  simp only[fxL,List.getElem?_cons_succ,Kvv S (n+1) r i]
  rw[show n+1+(i:Int)=n+((i+1:Nat):Int) by omega]
theorem Kvw{k:Nat}{c:CC}(hw:c.WF)(hk:c.dp<k){ks:List Int}(h3:∀ x∈ks,in3 x)(hn:c.sh.n=ks.length)(hb:ks.length≤1000000)(S:List Int)(want:Int) :
  Lgt k c.t ks S want=some (decide (c.sh.ev (fxL S 0 ks)=want)):=by
 have hloop:Ok (rangeG (σ:=List Int) (fun i3 s4=>bi (getZ s4 (i3:Int)) fun x15=>bi (Lgq S (i3:Int)) fun y18=>bif y18 then(bi (getZ ks (i3:Int)) fun x21=>bi (getZ (s4.set ((i3:Int).toNat) 2) (i3:Int)) fun x23=>some ((s4.set ((i3:Int).toNat) 2).set ((i3:Int).toNat) x21)) else(some (s4.set ((i3:Int).toNat) 2))) (ks.length:Int) (List.replicate ks.length 0)) fun r=>r.length=ks.length∧∀ j,j<ks.length→r[j]?=(fxL S 0 ks)[j]?:=by
  refine Kdq (Kdu (fun i (s:List Int)=>s.length=ks.length∧∀ j,j<i→s[j]?=(fxL S 0 ks)[j]?) ⟨by simp,fun j hj=>by omega⟩ ?_) fun r hr=>⟨hr.1,fun j hj=>hr.2 j (by simpa using hj)⟩
  intro i s hi ⟨s1,s2⟩
  have hi':i<ks.length:=by simpa using hi
  have hx:s[i]?=some (s[i]'(by omega)):=gGe _
  have hkx:ks[i]?=some ks[i]:=gGe _
  refine Kdp (Lcb hx) (Kdp (Lms S i) ?_)
  have hfx:(fxL S 0 ks)[i]?=some (if (i:Int)∈S then ks[i] else 2):=by rw[Kvv,hkx,Int.zero_add];rfl
  have hset:∀ v,(fxL S 0 ks)[i]?=some v→∀ j,j<i+1→(s.set i v)[j]?=(fxL S 0 ks)[j]?:=fun v hv j hj=>by
   by_cases e:j=i
   ·subst e
    rw[gSs (by omega),hv]
   ·rw[gSn (fun q=>e q.symm)]
    exact s2 j (by omega)
  refine Kdr (fun hc=>?_) (fun hc=>?_)
  ·rw[if_pos (of_decide_eq_true hc)] at hfx
   refine Kdp (Lcb hkx) ?_
   rw[show((i:Int).toNat)=i by omega]
   refine Kdp (Lcb (show(s.set i 2)[i]?=some 2 by rw[gSs (by omega)])) (Kdn ⟨by simp[s1],?_⟩)
   rw[List.set_set]
   exact hset _ hfx
  ·rw[if_neg (of_decide_eq_false hc)] at hfx
   rw[show((i:Int).toNat)=i by omega]
   exact Kdn ⟨by simp[s1],hset _ hfx⟩
 obtain⟨r,h1,h2,h4⟩:=hloop
 have hr:r=fxL S 0 ks:=List.ext_getElem? fun j=>by
  by_cases hj:j<ks.length
  ·exact h4 j hj
  ·rw[List.getElem?_eq_none (by omega),List.getElem?_eq_none (by rw[Kvs];omega)]
 subst hr
 unfold Lgt
 have hmk:makeZ (0:Int) (ks.length:Int)=some (List.replicate ks.length 0):=by
  show(bif Nat.ble ks.length 16777216 then some (List.replicate ks.length (0:Int)) else none)=_
  rw[Nat.ble_eq_true_of_le (by omega)];rfl
 rw[hmk,bi_some,show(((List.replicate ks.length (0:Int)).length:Int))=(ks.length:Int) by simp,dT (show(ks.length:Int)≤9223372036854775807 by omega)]
 show bi (rangeG _ _ _) _=_
 rw[h1,bi_some]
 have hj:=Kup (fxL S 0 ks) (Kvu h3) (by rw[Kvs];exact hb) c.dp k c 0 hw (Nat.le_refl _) hk (by rw[Kvs,hn];omega)
 rw[show((0:Nat):Int)=0 from rfl,List.drop_zero] at hj
 rw[hj,bi_some]
 congr 1
def ExtL(ks:List Int):Int→List Int→Prop
 | _,[]=>True
 | f,i :: E=>f≤i∧(∃ j x,i=(j:Nat)∧ks[j]?=some x∧x≠2)∧ExtL ks (i+1) E
theorem Kvx{ks:List Int}:∀ {E:List Int} {f:Int},ExtL ks f E→E≠[]→f+E.length≤ks.length
 | [],f,_,h=>absurd rfl h
 | [i],f,h,_=>by
  obtain⟨h1,⟨j,x,h2,h3,_⟩,_⟩:=h
  have:=(gEs.1 h3).1
  simp only[List.length_cons,List.length_nil]
  omega
 | i :: a :: E,f,h,_=>by
  have:=Kvx (E:=a :: E) h.2.2 (by simp)
  have h1:=h.1
  simp only[List.length_cons] at this ⊢
  omega
theorem Kvy{ks:List Int}{f g:Int}(hg:g≤f):∀ {E:List Int},ExtL ks f E→ExtL ks g E
 | [],_=>trivial
 | i :: E,h=>⟨Int.le_trans hg h.1,h.2⟩
theorem Kvz:∀ (m ks pre:List Int),Le3 m ks→ExtL (pre++ks) (pre.length:Int) (idx (pre.length:Int) m)
 | [],[],pre,_=>trivial
 | [],_ :: _,_,h=>h.elim
 | _ :: _,[],_,h=>h.elim
 | a :: m,b :: ks,pre,h=>by
  have ih:=Kvz m ks (pre++[b]) h.2
  rw[List.length_append,List.length_singleton,List.append_assoc,List.singleton_append,show((pre.length+1:Nat):Int)=(pre.length:Int)+1 by omega] at ih
  simp only[idx]
  by_cases ha:a=2
  ·rw[if_pos ha];exact Kvy (by omega) ih
  rw[if_neg ha]
  refine⟨Int.le_refl _,⟨pre.length,b,rfl,by simp,?_⟩,ih⟩
  rcases h.1 with e | e
  ·rw[←e];exact ha
  exact absurd e ha
theorem Kwa:∀ (n:Int) (m:List Int),∀ x∈idx n m,n≤x
 | n,[],x,hx=>by simp[idx] at hx
 | n,a :: m,x,hx=>by
  simp only[idx] at hx
  by_cases ha:a=2
  ·rw[if_pos ha] at hx;have:=Kwa (n+1) m x hx;omega
  rw[if_neg ha] at hx
  rcases List.mem_cons.1 hx with rfl | hx
  ·exact Int.le_refl _
  have:=Kwa (n+1) m x hx;omega
theorem Kwb:∀ (n:Int) (m ks:List Int) (S:List Int),Le3 m ks→(∀ x,n≤x→(x∈S ↔ x∈idx n m))→fxL S n ks=m
 | n,[],[],S,_,_=>rfl
 | n,[],_ :: _,_,h,_=>h.elim
 | n,_ :: _,[],_,h,_=>h.elim
 | n,a :: m,b :: ks,S,h,hS=>by
  simp only[fxL]
  have hn:=hS n (Int.le_refl _)
  simp only[idx] at hn
  have tl:fxL S (n+1) ks=m:=Kwb (n+1) m ks S h.2 fun x hx=>by
   rw[hS x (by omega)]
   simp only[idx]
   by_cases ha:a=2
   ·rw[if_pos ha]
   rw[if_neg ha,List.mem_cons]
   exact⟨fun e=>e.elim (fun e=>by omega) id,.inr⟩
  rw[tl]
  congr 1
  by_cases ha:a=2
  ·rw[if_pos ha] at hn
   rw[if_neg fun e=>by have:=Kwa (n+1) m n (hn.1 e);omega,ha]
  rw[if_neg ha] at hn
  rw[if_pos (hn.2 mCs)]
  exact(h.1.resolve_right ha).symm
theorem Kwc{ks:List Int}:∀ {E:List Int} {f:Int},ExtL ks f E→∀ x∈E,f≤x
 | [],_,_,x,hx=>by simp at hx
 | i :: E,f,h,x,hx=>by
  rcases List.mem_cons.1 hx with rfl | hx
  ·exact h.1
  have:=Kwc h.2.2 x hx
  have:=h.1
  omega
theorem Kwd:∀ (ks pre E:List Int),ExtL (pre++ks) (pre.length:Int) E→idx (pre.length:Int) (fxL E (pre.length:Int) ks)=E
 | [],pre,E,h=>by
  cases E with
  | nil=>rfl
  | cons i E=>
   have:=Kvx h (by simp)
   simp only[List.length_cons,List.append_nil] at this
   omega
 | b :: ks,pre,E,h=>by
  have ih:=fun E h=>Kwd ks (pre++[b]) E h
  simp only[List.length_append,List.length_singleton,List.append_assoc,List.singleton_append] at ih
  rw[show((pre.length+1:Nat):Int)=(pre.length:Int)+1 by omega] at ih
  simp only[fxL,idx]
  cases E with
  | nil=>
   rw[if_neg (show ¬ (pre.length:Int)∈([]:List Int) from List.not_mem_nil),if_pos rfl]
   exact ih [] trivial
  | cons i E=>
   obtain⟨h1,⟨j,x,h2,h3,h4⟩,h5⟩:=h
   by_cases hi:i=(pre.length:Int)
   ·subst hi
    have hx:b=x:=by
     have hj:j=pre.length:=by omega
     subst hj
     simpa using h3
    rw[if_pos mCs,if_neg (by rw[hx];exact h4)]
    have hE:=ih E h5
    congr 1
    have e:fxL ((pre.length:Int) :: E) ((pre.length:Int)+1) ks=fxL E ((pre.length:Int)+1) ks:=by
     refine Kwb _ _ _ _ (Kvt _ _ _) fun x hx=>?_
     rw[hE,List.mem_cons]
     exact⟨fun e=>e.elim (fun e=>by omega) id,.inr⟩
    rw[e,hE]
   have hlt:(pre.length:Int)+1≤i:=by omega
   rw[if_neg (show ¬ (pre.length:Int)∈i :: E from fun e=>(List.mem_cons.1 e).elim (fun e=>hi e.symm) fun e=>by have:=Kwc h5 _ e;omega),if_pos rfl]
   exact ih (i :: E) ⟨hlt,⟨j,x,h2,h3,h4⟩,h5⟩
mutual
def Sh.pos:Sh→Prop
 | .leaf=>True
 | .neg s=>s.pos
 | .grp _ l=>l≠[]∧Sh.poss l
def Sh.poss:List Sh→Prop
 | []=>True
 | s :: r=>s.pos∧Sh.poss r
end
mutual
theorem Kwe:∀ (s:Sh) (k:Nat),s.ok→s.pos→s.ev (List.replicate k 2)=2
 | .leaf,k,_,_=>by
  simp only[Sh.ev]
  cases k with
  | zero=>rfl
  | succ k=>rfl
 | .neg s,k,ho,hp=>by
  simp only[Sh.ev,Kwe s k (by simpa only[Sh.ok] using ho) (by simpa only[Sh.pos] using hp)]
  rfl
 | .grp st l,k,ho,hp=>by
  simp only[Sh.ok] at ho
  simp only[Sh.pos] at hp
  simp only[Sh.ev,cmb,Kwf l k ho.2 hp.2]
  have h1:¬ st∈List.replicate l.length (2:Int):=fun h=>by have:=(List.mem_replicate.1 h).2;omega
  rw[if_neg h1,if_pos (List.mem_replicate.2 ⟨fun e=>hp.1 (List.eq_nil_of_length_eq_zero e),rfl⟩)]
theorem Kwf:∀ (l:List Sh) (k:Nat),Sh.oks l→Sh.poss l→Sh.evs l (List.replicate k 2)=List.replicate l.length 2
 | [],k,_,_=>by simp only[Sh.evs,List.length_nil,List.replicate_zero]
 | s :: r,k,ho,hp=>by
  simp only[Sh.evs,List.drop_replicate,Kwe s k ho.1 hp.1,Kwf r (k - s.n) ho.2 hp.2,List.length_cons,List.replicate_succ]
end
theorem Kwg:∀ l:List CC,(∀ x∈l,x.sh.pos)→Sh.poss (CC.shs l)
 | [],_=>trivial
 | c :: r,h=>⟨h c mCs,Kwg r fun x hx=>h x (mCo _ hx)⟩
theorem Kwh{c:CC}(h:c.WF):c.sh.pos:=by
 induction h with
 | leaf h=>simp[CC.sh,Sh.pos]
 | neg h ih=>simp only[CC.sh,CC.shs,List.headD_cons,Sh.pos];exact ih
 | @grp k n o v l hk hl h ih=>
  simp only[CC.sh,if_neg (show ¬ k=1 by omega),if_neg (show ¬ k=2 by omega),Sh.pos]
  refine⟨fun e=>?_,Kwg l ih⟩
  cases l with
  | nil=>exact hl rfl
  | cons c r=>simp[CC.shs] at e
theorem Kwi:∀ (n:Int) (ks:List Int),fxL [] n ks=List.replicate ks.length 2
 | _,[]=>rfl
 | n,a :: r=>by simp only[fxL,List.not_mem_nil,if_false,Kwi (n+1) r,List.length_cons,List.replicate_succ]
section
variable{c:CC}(hw:c.WF){ks:List Int}(h3:∀ x∈ks,in3 x)(hn:c.sh.n=ks.length)(hb:ks.length≤1000000)(want:Int)
include hw h3 hn hb
theorem Kwj:∀ (n k:Nat) (S:List Int) (f:Int),0≤f→S.length+n≤2000000→c.dp+n+ks.length+10<k→n≤ks.length→f≤ks.length→
  ∃ r,Lgu k S f (n:Int) c.t ks want=some r∧((r=(1,[])∧∀ E:List Int,E.length=n→ExtL ks f E→c.sh.ev (fxL (S++E) 0 ks)≠want)∨
   ∃ E:List Int,E.length=n∧ExtL ks f E∧c.sh.ev (fxL (S++E) 0 ks)=want∧r=(0,S++E)∧∀ E':List Int,E'.length=n→ExtL ks f E'→c.sh.ev (fxL (S++E') 0 ks)=want→leL E E')
 | n,0,S,f,_,_,hk,_,_=>by omega
 | 0,k+1,S,f,h0,hS,hk,_,hf=>by
  simp only[Lgu,show(((0:Nat):Int)==0)=true from rfl,cond_true]
  rw[Kvw hw (by omega) h3 hn hb,bi_some]
  by_cases hd:c.sh.ev (fxL S 0 ks)=want
  ·rw[dT hd,cond_true]
   refine⟨_,rfl,.inr ⟨[],rfl,trivial,by rw[List.append_nil];exact hd,by rw[List.append_nil],fun E' hE _ _=>trivial⟩⟩
  ·rw[dF hd,cond_false]
   refine⟨_,rfl,.inl ⟨rfl,fun E hE _=>?_⟩⟩
   rw[List.eq_nil_of_length_eq_zero hE,List.append_nil]
   exact hd
 | n+1,k+1,S,f,h0,hS,hk,hnl,hf=>by
  have hne:(((n+1:Nat):Int)==0)=false:=by
   rw[←Bool.not_eq_true]
   intro h
   have:=eq_of_beq h
   omega
  simp only[Lgu,hne,cond_false]
  have loop:∀ (d q:Nat) (i:Int),i+d=ks.length+1→0≤i→d<q→
    ∃ r,loopM (σ:=Int) (ρ:=Unit ⊕ (Tl Int)) (fun s8=>bif decide ((s8:Int)≤(wi ((ks.length:Int) - ((n+1:Nat):Int)))) then(bi (getZ ks s8) fun x18=>bif (x18:Int)==2 then(some (.go (wi (s8+1)))) else(bi (Lfd S) fun y22=>bi (apd y22 [s8]) fun y24=>bi (Lgu k y24 (wi (s8+1)) (wi (((n+1:Nat):Int) - 1)) c.t ks want) fun y26=>bi (isNilT y26) fun b28=>bif !b28 then(bi (some y26) fun v=>some (.out (.inr v))) else(some (.go (wi (s8+1)))))) else(some (.out (.inl ())))) q i=some r∧
     ((r=.inl ()∧∀ E:List Int,E.length=n+1→ExtL ks i E→c.sh.ev (fxL (S++E) 0 ks)≠want)∨
      ∃ E:List Int,E.length=n+1∧ExtL ks i E∧c.sh.ev (fxL (S++E) 0 ks)=want∧r=.inr (0,S++E)∧∀ E':List Int,E'.length=n+1→ExtL ks i E'→c.sh.ev (fxL (S++E') 0 ks)=want→leL E E'):=by
   intro d
   induction d with
   | zero=>
    intro q i hi hi0 hq
    obtain⟨q,rfl⟩:∃ q',q=q'+1:=⟨q - 1,by omega⟩
    refine⟨.inl (),?_,.inl ⟨rfl,fun E hE hx=>?_⟩⟩
    ·refine Kdk _ ?_
     rw[Law (by omega) (by omega),dF (by omega),cond_false]
    ·exfalso
     have:=Kvx hx (by intro e;subst e;simp at hE)
     omega
   | succ d ih=>
    intro q i hi hi0 hq
    obtain⟨q,rfl⟩:∃ q',q=q'+1:=⟨q - 1,by omega⟩
    by_cases hc:i≤(ks.length:Int) - ((n+1:Nat):Int)
    ·obtain⟨j,rfl⟩:∃ j:Nat,i=(j:Int):=⟨i.toNat,by omega⟩
     have hjl:j<ks.length:=by omega
     have hx:ks[j]?=some ks[j]:=gGe hjl
     obtain⟨r,r1,r2⟩:=ih q ((j:Int)+1) (by omega) (by omega) (by omega)
     have hgo:∀ (hbad:∀ E:List Int,E.length=n→ExtL ks ((j:Int)+1) E→ks[j]≠2→c.sh.ev (fxL (S++(j:Int) :: E) 0 ks)≠want),
       ((r=.inl ()∧∀ E:List Int,E.length=n+1→ExtL ks (j:Int) E→c.sh.ev (fxL (S++E) 0 ks)≠want)∨
        ∃ E:List Int,E.length=n+1∧ExtL ks (j:Int) E∧c.sh.ev (fxL (S++E) 0 ks)=want∧r=.inr (0,S++E)∧∀ E':List Int,E'.length=n+1→ExtL ks (j:Int) E'→c.sh.ev (fxL (S++E') 0 ks)=want→leL E E'):=by
      intro hbad
      have hsplit:∀ E:List Int,E.length=n+1→ExtL ks (j:Int) E→c.sh.ev (fxL (S++E) 0 ks)=want→ExtL ks ((j:Int)+1) E:=fun E hE hx2 hD=>by
       cases E with
       | nil=>simp at hE
       | cons i0 E=>
        obtain⟨g1,⟨j',x',g2,g3,g4⟩,g5⟩:=hx2
        by_cases e:i0=(j:Int)
        ·exfalso
         subst e
         have:j'=j:=by omega
         subst this
         rw[hx] at g3
         cases g3
         exact hbad E (by simpa using hE) g5 g4 hD
        ·exact⟨by omega,⟨j',x',g2,g3,g4⟩,g5⟩
      rcases r2 with⟨e1,e2⟩ | ⟨E,e1,e2,e4,e5,e6⟩
      ·exact .inl ⟨e1,fun E hE hx2 hD=>e2 E hE (hsplit E hE hx2 hD) hD⟩
      ·exact .inr ⟨E,e1,Kvy (by omega) e2,e4,e5,fun E' h1 h2 h4=>e6 E' h1 (hsplit E' h1 h2 h4) h4⟩
     by_cases h2:ks[j]=2
     ·refine⟨r,?_,hgo fun E _ _ h=>absurd h2 h⟩
      refine(Kdj ((j:Int)+1) ?_).trans r1
      rw[Law (by omega) (by omega),dT hc,cond_true,Lcb hx,bi_some,show((ks[j]:Int)==2)=true by simpa using h2,cond_true,Law (by omega) (by omega)]
     ·obtain⟨t,t1,t2⟩:=Kwj n k (S++[(j:Int)]) ((j:Int)+1) (by omega) (by simp;omega) (by omega) (by omega) (by omega)
      have hstep:∀ b,isNilT t=some b→(bif decide (((j:Int):Int)≤(wi ((ks.length:Int) - ((n+1:Nat):Int)))) then(bi (getZ ks (j:Int)) fun x18=>bif (x18:Int)==2 then(some (.go (wi ((j:Int)+1)))) else(bi (Lfd S) fun y22=>bi (apd y22 [(j:Int)]) fun y24=>bi (Lgu k y24 (wi ((j:Int)+1)) (wi (((n+1:Nat):Int) - 1)) c.t ks want) fun y26=>bi (isNilT y26) fun b28=>bif !b28 then(bi (some y26) fun v=>some (.out (.inr v))) else(some (.go (wi ((j:Int)+1)))))) else(some (.out (.inl ()))):Option (LS Int (Unit ⊕ (Tl Int))))=some (bif !b then .out (.inr t) else .go ((j:Int)+1)):=fun b hb'=>by
       rw[Law (by omega) (by omega),dT hc,cond_true,Lcb hx,bi_some,show((ks[j]:Int)==2)=false by simpa using h2,cond_false]
       unfold Lfd
       rw[Lbe (by simp;omega),bi_some,bi_some,List.nil_append,Lbe (by simp;omega),bi_some,Law (by omega) (by omega),Law (by omega) (by omega),show(((n+1:Nat):Int) - 1)=(n:Int) by omega,t1,bi_some,hb',bi_some]
       cases b<;>rfl
      rcases t2 with⟨e1,e2⟩ | ⟨E,e1,e2,e4,e5,e6⟩
      ·subst e1
       refine⟨r,(Kdj ((j:Int)+1) (hstep true rfl)).trans r1,hgo fun E hE hx2 _=>?_⟩
       have:=e2 E hE hx2
       rwa [List.append_assoc,List.singleton_append] at this
      ·have hnil:isNilT t=some false:=by
        rw[e5]
        cases S<;>rfl
       rw[List.append_assoc,List.singleton_append] at e4 e5
       refine⟨.inr t,Kdk _ (hstep false hnil),.inr ⟨(j:Int) :: E,by simp[e1],⟨Int.le_refl _,⟨j,ks[j],rfl,hx,h2⟩,e2⟩,e4,by rw[e5],fun E' g1 g2 g4=>?_⟩⟩
       cases E' with
       | nil=>simp at g1
       | cons i0 E'=>
        obtain⟨k1,⟨j',x',k2,k3,k4⟩,k5⟩:=g2
        by_cases e:(j:Int)<i0
        ·exact .inl e
        ·have e0:i0=(j:Int):=by omega
         subst e0
         refine .inr ⟨rfl,e6 E' (by simpa using g1) k5 ?_⟩
         rw[List.append_assoc,List.singleton_append]
         exact g4
    ·refine⟨.inl (),?_,.inl ⟨rfl,fun E hE hx=>?_⟩⟩
     ·refine Kdk _ ?_
      rw[Law (by omega) (by omega),dF hc,cond_false]
     ·exfalso
      have:=Kvx hx (by intro e;subst e;simp at hE)
      omega
  obtain⟨r,r1,r2⟩:=loop (ks.length+1 - f.toNat) k f (by omega) h0 (by omega)
  rw[r1,bi_some]
  rcases r2 with⟨e1,e2⟩ | ⟨E,e1,e2,e4,e5,e6⟩
  ·subst e1
   exact⟨_,rfl,.inl ⟨rfl,e2⟩⟩
  ·subst e5
   exact⟨_,rfl,.inr ⟨E,e1,e2,e4,rfl,e6⟩⟩
theorem Kwk(hwant:c.sh.ev ks=want)(hw2:want≠2){k:Nat}(hk:c.dp+2 * ks.length+20<k) :
  (bi (loopM (σ:=Int) (ρ:=Unit ⊕ (List Int)) (fun s8=>bif decide ((s8:Int)≤(ks.length:Int)) then(bi (Lgu k [] 0 s8 c.t ks want) fun y18=>bi (isNilT y18) fun b20=>bif !b20 then(bi (some y18.2) fun v=>some (.out (.inr v))) else(some (.go (wi (s8+1))))) else(some (.out (.inl ())))) k 1) fun q=>orI q fun a12=>some [])=some (c.sh.pf 0 ks):=by
 have hok:=Kta hw
 obtain⟨m0,m1,m2,m3,m4⟩:=pdec c.sh 0 ks hok (by omega) (by rw[hwant];exact hw2)
 have hm4:=m4 []
 rw[List.append_nil] at hm4
 rw[hn,List.take_of_length_le (Nat.le_refl _)] at m2
 have hfp:fxL (c.sh.pf 0 ks) 0 ks=m0:=by
  rw[←m3]
  exact Kwb 0 m0 ks _ m2 fun x _=>Iff.rfl
 have hDp:c.sh.ev (fxL (c.sh.pf 0 ks) 0 ks)=want:=by rw[hfp,hm4,hwant]
 have hEp:ExtL ks 0 (c.sh.pf 0 ks):=by
  have:=Kvz m0 ks [] m2
  rw[←m3]
  exact this
 have hmin:∀ E:List Int,ExtL ks 0 E→c.sh.ev (fxL E 0 ks)=want→le2 (c.sh.pf 0 ks) E:=fun E hE hD=>by
  obtain⟨_,h⟩:=pmin c.sh 0 ks (fxL E 0 ks) hok (Kvt E 0 ks) (by omega) (by rw[hD];exact hw2)
  rw[List.take_of_length_le (by rw[Kvs];omega)] at h
  have hi:idx 0 (fxL E 0 ks)=E:=Kwd ks [] E hE
  rw[hi] at h
  exact h
 have hpos:1≤(c.sh.pf 0 ks).length:=by
  rcases Nat.eq_zero_or_pos (c.sh.pf 0 ks).length with h | h
  ·exfalso
   rw[List.eq_nil_of_length_eq_zero h,Kwi,Kwe c.sh _ hok (Kwh hw)] at hDp
   exact hw2 hDp.symm
  ·exact h
 have hple:(c.sh.pf 0 ks).length≤ks.length:=by rw[←hn];exact Kui _ _ _
 have loop:∀ (d q:Nat) (i:Nat),i+d=(c.sh.pf 0 ks).length→1≤i→d<q→
   loopM (σ:=Int) (ρ:=Unit ⊕ (List Int)) (fun s8=>bif decide ((s8:Int)≤(ks.length:Int)) then(bi (Lgu k [] 0 s8 c.t ks want) fun y18=>bi (isNilT y18) fun b20=>bif !b20 then(bi (some y18.2) fun v=>some (.out (.inr v))) else(some (.go (wi (s8+1))))) else(some (.out (.inl ())))) q (i:Int)=some (.inr (c.sh.pf 0 ks)):=by
  intro d
  induction d with
  | zero=>
   intro q i hi hi1 hq
   obtain⟨q,rfl⟩:∃ q',q=q'+1:=⟨q - 1,by omega⟩
   obtain⟨t,t1,t2⟩:=Kwj hw h3 hn hb want i k [] 0 (by omega) (by simp;omega) (by omega) (by omega) (by omega)
   refine Kdk _ ?_
   rw[dT (show((i:Int):Int)≤(ks.length:Int) by omega),cond_true,t1,bi_some]
   rcases t2 with⟨_,e2⟩ | ⟨E,e1,e2,e4,e5,e6⟩
   ·exact absurd hDp (e2 _ (by omega) hEp)
   ·rw[List.nil_append] at e4 e5
    have hl:leL E (c.sh.pf 0 ks):=e6 _ (by omega) hEp hDp
    have hE:E=c.sh.pf 0 ks:=by
     rcases hmin E e2 e4 with h | ⟨_,h⟩
     ·omega
     ·exact Kwo hl h
    subst e5
    rw[hE]
    have hz:isNilT ((0,c.sh.pf 0 ks):Tl Int)=some false:=by
     cases hp:c.sh.pf 0 ks with
     | nil=>rw[hp] at hpos;simp at hpos
     | cons a r=>rfl
    rw[hz,bi_some];rfl
  | succ d ih=>
   intro q i hi hi1 hq
   obtain⟨q,rfl⟩:∃ q',q=q'+1:=⟨q - 1,by omega⟩
   obtain⟨t,t1,t2⟩:=Kwj hw h3 hn hb want i k [] 0 (by omega) (by simp;omega) (by omega) (by omega) (by omega)
   have hno:t=(1,[]):=by
    rcases t2 with⟨e1,_⟩ | ⟨E,e1,e2,e4,_,_⟩
    ·exact e1
    ·exfalso
     rw[List.nil_append] at e4
     rcases hmin E e2 e4 with h | ⟨h,_⟩<;>omega
   refine(Kdj ((i+1:Nat):Int) ?_).trans (ih q (i+1) (by omega) (by omega) (by omega))
   rw[dT (show((i:Int):Int)≤(ks.length:Int) by omega),cond_true,t1,bi_some,hno,show isNilT ((1,[]):Tl Int)=some true from rfl,bi_some]
   simp only[Bool.not_true,cond_false]
   rw[Law (by omega) (by omega)]
   congr 2
 have:=loop ((c.sh.pf 0 ks).length - 1) k 1 (by omega) (by omega) (by omega)
 rw[show((1:Nat):Int)=1 from rfl] at this
 rw[this];rfl
end
section
variable{m:List (Lda×(Tl Lcy))}{al:List Bool}{l:List Lcy}(hI:InvR al m l)(hl:l.length≤900)(fresh:Int)
include hI hl
theorem Kwl(node:Str)(v:Int)(k:Nat)(c:CC)(hw:c.WF)(hk:c.dp+2 * c.lf.length+20<k)(hb:c.lf.length≤1000000):Lgv k c.t l fresh node v=some (c.sh.pf 0 (c.lf.map (lv l fresh node v))):=by
 obtain⟨h1,h2⟩:=Kus hI hl fresh node v k c hw (by omega) hb
 have hn:c.sh.n=(c.lf.map (lv l fresh node v)).length:=by rw[List.length_map,(sh_n hw).1]
 have hbl:(c.lf.map (lv l fresh node v)).length≤1000000:=by simpa using hb
 unfold Lgv
 rw[h1,bi_some]
 have hj:=Kup (c.lf.map (lv l fresh node v)) h2 hbl c.dp k c 0 hw (Nat.le_refl _) (by omega) (by rw[Nat.zero_add,hn];exact Nat.le_refl _)
 rw[show((0:Nat):Int)=0 from rfl,List.drop_zero] at hj
 rw[hj,bi_some]
 by_cases h:c.sh.ev (c.lf.map (lv l fresh node v))=2
 ·rw[show((c.sh.ev (c.lf.map (lv l fresh node v)):Int)==2)=true by simpa using h,cond_true,Kxj c.sh 0 _ (Kta hw) h]
 rw[show((c.sh.ev (c.lf.map (lv l fresh node v)):Int)==2)=false by simpa using h,cond_false]
 exact Kwk hw h2 hn hbl _ rfl h (by rw[List.length_map];omega)
end
end Go.Gk
