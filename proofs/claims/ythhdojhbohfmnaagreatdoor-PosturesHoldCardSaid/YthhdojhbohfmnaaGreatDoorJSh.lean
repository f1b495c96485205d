import Derived.Test.YthhdojhbohfmnaaGreatDoorTLoop
set_option linter.all false
set_option maxRecDepth 100000
namespace Go.Gk
inductive Sh where
 | leaf
 | neg (s:Sh)
 | grp (st:Int) (l:List Sh)
mutual
def Sh.n:Sh→Nat
 | .leaf=>1
 | .neg s=>s.n
 | .grp _ l=>Sh.ns l
def Sh.ns:List Sh→Nat
 | []=>0
 | s :: r=>s.n+Sh.ns r
end
mutual
def Sh.ok:Sh→Prop
 | .leaf=>True
 | .neg s=>s.ok
 | .grp st l=>(st=0∨st=1)∧Sh.oks l
def Sh.oks:List Sh→Prop
 | []=>True
 | s :: r=>s.ok∧Sh.oks r
end
def neg3(v:Int):Int:=if v=1 then 0 else if v=0 then 1 else v
def cmb(st:Int)(vs:List Int):Int:=if st∈vs then st else if 2∈vs then 2 else 1 - st
mutual
def Sh.ev:Sh→List Int→Int
 | .leaf,ks=>ks.headD 2
 | .neg s,ks=>neg3 (s.ev ks)
 | .grp st l,ks=>cmb st (Sh.evs l ks)
def Sh.evs:List Sh→List Int→List Int
 | [],_=>[]
 | s :: r,ks=>s.ev ks :: Sh.evs r (ks.drop s.n)
end
def leL:List Int→List Int→Prop
 | [],_=>True
 | _ :: _,[]=>False
 | a :: r,b :: q=>a<b∨(a=b∧leL r q)
def ltB:List Int→List Int→Bool
 | _,[]=>false
 | [],_ :: _=>true
 | a :: r,b :: q=>decide (a<b)||(decide (a=b)&&ltB r q)
theorem Kst:∀ a,leL a a
 | []=>trivial
 | a :: r=>.inr ⟨rfl,Kst r⟩
theorem Ksu:∀ {a b c},leL a b→leL b c→leL a c
 | [],_,_,_,_=>trivial
 | _ :: _,[],_,h,_=>h.elim
 | _ :: _,_ :: _,[],_,h=>h.elim
 | a :: r,b :: q,c :: s,h1,h2=>by
  rcases h1 with h1 | ⟨rfl,h1⟩
  ·rcases h2 with h2 | ⟨rfl,h2⟩
   ·exact .inl (Int.lt_trans h1 h2)
   exact .inl h1
  rcases h2 with h2 | ⟨rfl,h2⟩
  ·exact .inl h2
  exact .inr ⟨rfl,Ksu h1 h2⟩
theorem Ksv:∀ {a b},ltB a b=false→leL b a
 | a,[],_=>by cases a<;>trivial
 | [],b :: q,h=>by simp[ltB] at h
 | a :: r,b :: q,h=>by
  simp only[ltB,Bool.or_eq_false_iff,Bool.and_eq_false_iff,decide_eq_false_iff_not] at h
  rcases h.2 with h2 | h2
  ·exact .inl (by omega)
  by_cases e:a=b
  ·exact .inr ⟨e.symm,Ksv h2⟩
  exact .inl (by omega)
theorem Ksw:∀ {a b},ltB a b=true→leL a b
 | a,[],h=>by cases a<;>simp[ltB] at h
 | [],b :: q,h=>trivial
 | a :: r,b :: q,h=>by
  simp only[ltB,Bool.or_eq_true,Bool.and_eq_true,decide_eq_true_eq] at h
  rcases h with h | ⟨h1,h2⟩
  ·exact .inl h
  exact .inr ⟨h1,Ksw h2⟩
def le2(a b:List Int):Prop:=a.length<b.length∨(a.length=b.length∧leL a b)
def shB(a b:List Int):Bool:=decide (a.length<b.length)||(decide (a.length=b.length)&&ltB a b)
theorem Ksx(a:List Int):le2 a a:=.inr ⟨rfl,Kst a⟩
theorem Ksy{a b c:List Int}(h1:le2 a b)(h2:le2 b c):le2 a c:=by
 rcases h1 with h1 | ⟨h1,k1⟩
 ·rcases h2 with h2 | ⟨h2,_⟩
  ·exact .inl (by omega)
  exact .inl (by omega)
 rcases h2 with h2 | ⟨h2,k2⟩
 ·exact .inl (by omega)
 exact .inr ⟨by omega,Ksu k1 k2⟩
theorem Ksz{a b:List Int}(h:shB a b=false):le2 b a:=by
 simp only[shB,Bool.or_eq_false_iff,Bool.and_eq_false_iff,decide_eq_false_iff_not] at h
 rcases h.2 with h2 | h2
 ·exact .inl (by omega)
 by_cases e:a.length=b.length
 ·exact .inr ⟨e.symm,Ksv h2⟩
 exact .inl (by omega)
theorem Kta{a b:List Int}(h:shB a b=true):le2 a b:=by
 simp only[shB,Bool.or_eq_true,Bool.and_eq_true,decide_eq_true_eq] at h
 rcases h with h | ⟨h1,h2⟩
 ·exact .inl h
 exact .inr ⟨h1,Ksw h2⟩
def Le3:List Int→List Int→Prop
 | [],[]=>True
 | a :: r,b :: q=>(a=b∨a=2)∧Le3 r q
 | _,_=>False
theorem Le3.refl:∀ l,Le3 l l
 | []=>trivial
 | a :: r=>⟨.inl rfl,Le3.refl r⟩
theorem Le3.len:∀ {m ks},Le3 m ks→m.length=ks.length
 | [],[],_=>rfl
 | [],_ :: _,h=>h.elim
 | _ :: _,[],h=>h.elim
 | _ :: _,_ :: _,h=>by simp[h.2.len]
theorem Le3.drop:∀ {m ks} (n:Nat),Le3 m ks→Le3 (m.drop n) (ks.drop n)
 | m,ks,0,h=>h
 | [],[],n+1,_=>trivial
 | [],_ :: _,_,h=>h.elim
 | _ :: _,[],_,h=>h.elim
 | _ :: _,_ :: _,n+1,h=>Le3.drop n h.2
theorem Le3.app:∀ {m ks m' ks'},Le3 m ks→Le3 m' ks'→Le3 (m++m') (ks++ks')
 | [],[],_,_,_,h=>h
 | [],_ :: _,_,_,h,_=>h.elim
 | _ :: _,[],_,_,h,_=>h.elim
 | _ :: _,_ :: _,_,_,h,h2=>⟨h.1,h.2.app h2⟩
def idx:Int→List Int→List Int
 | _,[]=>[]
 | n,a :: r=>if a=2 then idx (n+1) r else n :: idx (n+1) r
def stp(st:Int)(acc v:Int×List Int):Int×List Int:=
 if v.1=st then(if acc.1≠st∨shB v.2 acc.2=true then v else acc) else if acc.1=st then acc else if v.1=2∨acc.1=2 then(2,[]) else(acc.1,acc.2++v.2)
mutual
def Sh.pf:Sh→Int→List Int→List Int
 | .leaf,n,ks=>if ks.headD 2=2 then[] else[n]
 | .neg s,n,ks=>s.pf n ks
 | .grp st l,n,ks=>(Sh.pfs st l n ks (1 - st,[])).2
def Sh.pfs(st:Int):List Sh→Int→List Int→Int×List Int→Int×List Int
 | [],_,_,acc=>acc
 | s :: r,n,ks,acc=>Sh.pfs st r (n+s.n) (ks.drop s.n) (stp st acc (s.ev ks,s.pf n ks))
end
theorem Ktb{st:Int}{acc:Int×List Int}(v:Int×List Int)(h:acc.1=st):(stp st acc v).1=st∧le2 (stp st acc v).2 acc.2:=by
 unfold stp
 by_cases h1:v.1=st
 ·rw[if_pos h1]
  by_cases h2:shB v.2 acc.2=true
  ·rw[if_pos (.inr h2)];exact⟨h1,Kta h2⟩
  rw[if_neg (fun q=>q.elim (fun h3=>h3 h) (fun h3=>h2 h3))];exact⟨h,Ksx _⟩
 rw[if_neg h1,if_pos h];exact⟨h,Ksx _⟩
theorem Ktc{st:Int}(acc:Int×List Int){v:Int×List Int}(h:v.1=st):(stp st acc v).1=st∧le2 (stp st acc v).2 v.2:=by
 unfold stp
 rw[if_pos h]
 by_cases h2:acc.1≠st∨shB v.2 acc.2=true
 ·rw[if_pos h2];exact⟨h,Ksx _⟩
 rw[if_neg h2]
 have h3:acc.1=st:=Classical.byContradiction fun e=>h2 (.inl e)
 exact⟨h3,Ksz (by cases hb:shB v.2 acc.2 with | false=>rfl | true=>exact absurd (.inr hb) h2)⟩
theorem Ktd(st:Int):∀ (l:List Sh) (n:Int) (ks:List Int) (acc:Int×List Int),acc.1=st→(Sh.pfs st l n ks acc).1=st∧le2 (Sh.pfs st l n ks acc).2 acc.2
 | [],n,ks,acc,h=>by simp only[Sh.pfs];exact⟨h,Ksx _⟩
 | s :: r,n,ks,acc,h=>by
  simp only[Sh.pfs]
  obtain⟨h1,h2⟩:=Ktb (s.ev ks,s.pf n ks) h
  obtain⟨h3,h4⟩:=Ktd st r (n+s.n) (ks.drop s.n) _ h1
  exact⟨h3,Ksy h4 h2⟩
theorem Kte(st:Int)(hst:st≠2):∀ (l:List Sh) (n:Int) (ks:List Int) (acc:Int×List Int),(Sh.pfs st l n ks acc).1=if acc.1=st∨st∈Sh.evs l ks then st else if acc.1=2∨2∈Sh.evs l ks then 2 else acc.1
 | [],n,ks,acc=>by
  simp only[Sh.pfs,Sh.evs,List.not_mem_nil,or_false]
  by_cases h1:acc.1=st
  ·rw[if_pos h1];exact h1
  rw[if_neg h1]
  by_cases h2:acc.1=2
  ·rw[if_pos h2];exact h2
  rw[if_neg h2]
 | s :: r,n,ks,acc=>by
  simp only[Sh.pfs,Sh.evs,List.mem_cons]
  by_cases h0:s.ev ks=st
  ·rw[(Ktd st r _ _ _ (Ktc acc (v:=(s.ev ks,s.pf n ks)) h0).1).1,if_pos (.inr (.inl h0.symm))]
  by_cases h1:acc.1=st
  ·rw[(Ktd st r _ _ _ (Ktb (s.ev ks,s.pf n ks) h1).1).1,if_pos (.inl h1)]
  have h0':¬ st=s.ev ks:=fun e=>h0 e.symm
  rw[Kte st hst r]
  have hs:(stp st acc (s.ev ks,s.pf n ks)).1=if s.ev ks=2∨acc.1=2 then 2 else acc.1:=by
   unfold stp
   rw[if_neg h0,if_neg h1]
   by_cases h2:s.ev ks=2∨acc.1=2
   ·rw[if_pos h2,if_pos h2]
   rw[if_neg h2,if_neg h2]
  rw[hs]
  by_cases h2:s.ev ks=2∨acc.1=2
  ·rw[if_pos h2]
   by_cases h3:st∈Sh.evs r (ks.drop s.n)
   ·rw[if_pos (.inr h3),if_pos (.inr (.inr h3))]
   rw[if_neg (fun q=>q.elim (fun e=>hst e.symm) (fun e=>h3 e)),if_pos (.inl rfl),if_neg (fun q=>q.elim (fun e=>h1 e) (fun q=>q.elim (fun e=>h0' e) (fun e=>h3 e))),
    if_pos (h2.elim (fun h2=>.inr (.inl h2.symm)) fun h2=>.inl h2)]
  rw[if_neg h2]
  by_cases h3:st∈Sh.evs r (ks.drop s.n)
  ·rw[if_pos (.inr h3),if_pos (.inr (.inr h3))]
  have e1':¬ 2=s.ev ks:=fun e=>h2 (.inl e.symm)
  have e2:¬ acc.1=2:=fun e=>h2 (.inr e)
  by_cases h4:2∈Sh.evs r (ks.drop s.n)
  ·simp[h1,h0',h3,e2,e1',h4]
  simp[h1,h0',h3,e2,e1',h4]
theorem Ktf{st:Int}(hst:st=0∨st=1)(l:List Sh)(n:Int)(ks:List Int):(Sh.pfs st l n ks (1 - st,[])).1=(Sh.grp st l).ev ks:=by
 rw[Kte st (by omega)]
 simp only[Sh.ev,cmb]
 by_cases h1:st∈Sh.evs l ks
 ·rw[if_pos (.inr h1),if_pos h1]
 rw[if_neg (fun q=>q.elim (fun e=>by omega) (fun e=>h1 e)),if_neg h1]
 by_cases h2:2∈Sh.evs l ks
 ·rw[if_pos (.inr h2),if_pos h2]
 rw[if_neg (fun q=>q.elim (fun e=>by omega) (fun e=>h2 e)),if_neg h2]
end Go.Gk
