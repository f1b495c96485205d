import Derived.Test.YtjmlnnanfkiakaaGreatDoorFZero
set_option linter.all false
set_option maxRecDepth 100000
namespace Go.Gk
section
variable{α:Type}{lt:α→α→Bool}
structure Ord(lt:α→α→Bool):Prop where
 as:∀ a b,lt a b=true→lt b a=false
 tr:∀ a b c,lt a b=false→lt b c=false→lt a c=false
theorem Kug(A:List α)(p q:α)(X:List α):((A++p :: q :: X).set (A.length+1) p).set A.length q=A++q :: p :: X:=by
 rw[List.set_append_right _ _ (by omega),List.set_append_right _ _ (by omega)]
 simp
theorem Kuh(O:Ord lt){cmp:α→α→Option Int}(hcmp:∀ x y,∃ c,cmp x y=some c∧decide (c<0)=lt x y){f:(List α)×Int→Option (LS ((List α)×Int) (List α))}
  (hf:∀ s13,f s13=bi (bif decide ((s13.2:Int)>0) then(bi (getZ s13.1 s13.2) fun x25=>bi (getZ s13.1 (wi (s13.2 - 1))) fun x28=>bi (cmp x25 x28) fun y31=>some (decide ((y31:Int)<0))) else(some false)) fun q22=>bif q22 then(bi (getZ s13.1 (wi (s13.2 - 1))) fun x35=>bi (getZ s13.1 s13.2) fun x38=>bi (getZ s13.1 s13.2) fun x41=>bi (getZ s13.1 (wi (s13.2 - 1))) fun x44=>bi (getZ (s13.1.set s13.2.toNat x35) (((wi (s13.2 - 1)).toNat:Nat):Int)) fun x47=>some (.go ((s13.1.set s13.2.toNat x35).set ((wi (s13.2 - 1)).toNat) x38,wi (s13.2 - 1)))) else(some (.out s13.1))) :
  ∀ (k:Nat) (A B C:List α) (q:α),(A++B).Pairwise (fun x y=>lt y x=false)→(∀ b∈B,lt q b=true)→A.length<k→A.length≤100→
   ∃ D,loopM f k (A++q :: (B++C),(A.length:Int))=some (D++C)∧D.Pairwise (fun x y=>lt y x=false)∧D.length=A.length+1+B.length∧(D++C).Perm (A++q :: (B++C))
 | 0,A,B,C,q,_,_,h,_=>absurd h (Nat.not_lt_zero _)
 | k+1,A,B,C,q,hp,hB,hk,hl=>by
  have hq:(A++q :: (B++C))[A.length]?=some q:=by simp
  unfold loopM
  rw[hf]
  by_cases hA:A=[]
  ·subst hA
   refine⟨q :: B,by simp,?_,by simp;omega,by simp⟩
   rw[List.pairwise_cons]
   exact⟨fun b hb=>O.as _ _ (hB b hb),by simpa using hp⟩
  ·obtain⟨A',p,rfl⟩:∃ a x,A=a++[x]:=⟨A.dropLast,A.getLast hA,(List.dropLast_concat_getLast hA).symm⟩
   have hlen:(A'++[p]).length=A'.length+1:=by simp
   have hpj:((A'++[p])++q :: (B++C))[A'.length]?=some p:=by simp
   have hw:wi (((A'++[p]).length:Int) - 1)=(A'.length:Int):=by rw[hlen,Kxl (by omega) (by omega)];omega
   have hst:(A'++[p])++q :: (B++C)=A'++p :: q :: (B++C):=by simp
   simp only
   rw[decide_eq_true (show((A'++[p]).length:Int)>0 by rw[hlen];omega)]
   obtain⟨c,hc1,hc⟩:=hcmp q p
   simp only[cond_true,hw,getZ_cast,hq,hpj,bi_some,hc1]
   cases hlt:lt q p with
   | true=>
    rw[hc,hlt]
    simp only[cond_true,Int.toNat_natCast,bi_some]
    have e1:(((A'++[p])++q :: (B++C)).set (A'++[p]).length p)[A'.length]?=some p:=by rw[List.getElem?_set_ne (by rw[hlen];omega)];exact hpj
    rw[e1]
    simp only[bi_some]
    rw[hlen,hst,Kug]
    obtain⟨D,d1,d2,d3,d4⟩:=Kuh O hcmp hf k A' (p :: B) C q (by simpa using hp) (fun b hb=>by
     rcases List.mem_cons.1 hb with rfl | hb
     ·exact hlt
     ·exact hB b hb) (by omega) (by omega)
    refine⟨D,d1,d2,by rw[d3];simp;omega,d4.trans ?_⟩
    exact(List.Perm.swap p q (B++C)).append_left A'
   | false=>
    rw[hc,hlt]
    refine⟨(A'++[p])++q :: B,by simp,?_,by simp;omega,by simp⟩
    rw[List.pairwise_append] at hp ⊢
    refine⟨hp.1,?_,fun x hx y hy=>?_⟩
    ·rw[List.pairwise_cons]
     exact⟨fun b hb=>O.as _ _ (hB b hb),hp.2.1⟩
    ·rcases List.mem_cons.1 hy with rfl | hy
     ·rcases List.mem_append.1 hx with hx | hx
      ·exact O.tr _ _ _ hlt ((List.pairwise_append.1 hp.1).2.2 x hx p (by simp))
      ·simp only[List.mem_singleton] at hx
       subst hx;exact hlt
     ·exact hp.2.2 x hx y hy
theorem Kui(O:Ord lt){cmp:α→α→Option Int}(hcmp:∀ x y,∃ c,cmp x y=some c∧decide (c<0)=lt x y){f:(List α)×Int→Option (LS ((List α)×Int) (List α))}
  (hf:∀ s13,f s13=bi (bif decide ((s13.2:Int)>0) then(bi (getZ s13.1 s13.2) fun x25=>bi (getZ s13.1 (wi (s13.2 - 1))) fun x28=>bi (cmp x25 x28) fun y31=>some (decide ((y31:Int)<0))) else(some false)) fun q22=>bif q22 then(bi (getZ s13.1 (wi (s13.2 - 1))) fun x35=>bi (getZ s13.1 s13.2) fun x38=>bi (getZ s13.1 s13.2) fun x41=>bi (getZ s13.1 (wi (s13.2 - 1))) fun x44=>bi (getZ (s13.1.set s13.2.toNat x35) (((wi (s13.2 - 1)).toNat:Nat):Int)) fun x47=>some (.go ((s13.1.set s13.2.toNat x35).set ((wi (s13.2 - 1)).toNat) x38,wi (s13.2 - 1)))) else(some (.out s13.1)))
  (n:Nat) (hn:n≤100) (k1:Nat) (hk1:200≤k1) {f2:(List α)×Int→Option (LS ((List α)×Int) (List α))}
  (hf2:∀ s2,f2 s2=bif decide ((s2.2:Int)<(n:Int)) then(bi (loopM f k1 (s2.1,s2.2)) fun q15=>some (.go (q15,wi (s2.2+1)))) else(some (.out s2.1))) :
  ∀ (k:Nat) (S C:List α),S.Pairwise (fun x y=>lt y x=false)→(S++C).length=n→C.length<k→
   ∃ m,loopM f2 k (S++C,(S.length:Int))=some m∧m.Pairwise (fun x y=>lt y x=false)∧m.length=n∧m.Perm (S++C)
 | 0,S,C,_,_,h=>absurd h (Nat.not_lt_zero _)
 | k+1,S,C,hS,hl,hk=>by
  unfold loopM
  rw[hf2]
  cases C with
  | nil=>
   simp only[List.append_nil] at hl ⊢
   rw[decide_eq_false (show ¬ (S.length:Int)<(n:Int) by omega)]
   exact⟨S,rfl,hS,hl,.refl _⟩
  | cons q C=>
   have hl':S.length+(C.length+1)=n:=by simpa using hl
   simp only
   rw[decide_eq_true (show(S.length:Int)<(n:Int) by omega)]
   obtain⟨D,d1,d2,d3,d4⟩:=Kuh O hcmp hf k1 S [] C q (by simpa using hS) (fun b hb=>by cases hb) (by omega) (by omega)
   simp only[List.nil_append] at d1 d4
   simp only[List.length_nil,Nat.add_zero] at d3
   simp only[cond_true,d1,bi_some]
   have hw:wi ((S.length:Int)+1)=(D.length:Int):=by rw[Kxl (by omega) (by omega),d3];omega
   rw[hw]
   obtain⟨m,m1,m2,m3,m4⟩:=Kui O hcmp hf n hn k1 hk1 hf2 k D C d2 (by simp;omega) (by simp at hk;omega)
   exact⟨m,m1,m2,m3,m4.trans d4⟩
end
theorem Kuj:∀ a b:Str,decide (Lib.compareBytes a b<0)=Op.bytesLess a b
 | [],[]=>rfl
 | [],_ :: _=>rfl
 | _ :: _,[]=>rfl
 | a :: x,b :: y=>by
  unfold Lib.compareBytes Op.bytesLess
  by_cases h1:a<b
  ·simp[h1]
  by_cases h2:b<a
  ·have hne:(a==b)=false:=by
    rw[beq_eq_false_iff_ne]
    intro e
    subst e
    exact h1 h2
   simp[h1,h2,hne]
  have he:a=b:=UInt8.le_antisymm (UInt8.not_lt.1 h2) (UInt8.not_lt.1 h1)
  subst he
  simp[h1,Kuj x y]
theorem Kuk(a b:Str)(h:Op.bytesLess a b=true):Op.bytesLess b a=false:=by
 cases h2:Op.bytesLess b a with
 | false=>rfl
 | true=>have:=Kwl _ _ _ h h2;rw[Kwk] at this;cases this
theorem Kul(a b c:Str)(h1:Op.bytesLess a b=false)(h2:Op.bytesLess b c=false):Op.bytesLess a c=false:=by
 cases h3:Op.bytesLess a c with
 | false=>rfl
 | true=>
  cases h4:Op.bytesLess b a with
  | true=>have:=Kwl _ _ _ h4 h3;rw[h2] at this;cases this
  | false=>
   have:=Kwm _ _ h1 h4
   subst this
   rw[h2] at h3;cases h3
theorem Kum:∀ a b:Str,decide (a≤b)=!Op.bytesLess b a
 | [],b=>by
  have h1:([]:Str)≤b:=List.nil_le b
  rw[decide_eq_true h1]
  cases b<;>rfl
 | a :: x,[]=>by
  have h1:¬ (a :: x≤([]:Str)):=by simp
  rw[decide_eq_false h1];rfl
 | a :: x,b :: y=>by
  have ih:=Kum x y
  unfold Op.bytesLess
  rw[Bool.eq_iff_iff]
  have ih':x≤y ↔ Op.bytesLess y x=false:=by
   rw[←decide_eq_true_iff (p:=x≤y),ih];simp
  rw[decide_eq_true_iff,List.cons_le_cons_iff]
  by_cases h1:a<b
  ·have h2:¬ b<a:=fun h=>by have:=UInt8.lt_trans h1 h;exact UInt8.lt_irrefl _ this
   have h3:(b==a)=false:=by
    rw[beq_eq_false_iff_ne];intro e;subst e;exact h2 h1
   simp[h1,h2,h3]
  by_cases h2:b<a
  ·have h3:¬ a=b:=by intro e;subst e;exact h1 h2
   simp[h1,h2,h3]
  have he:a=b:=UInt8.le_antisymm (UInt8.not_lt.1 h2) (UInt8.not_lt.1 h1)
  subst he
  simp[h1,ih']
theorem Kun{V:Type}{m:List (Str×V)}(h:SM m):sortK m=m.map (·.1):=by
 unfold sortK
 refine List.mergeSort_of_pairwise ?_
 rw[List.pairwise_map]
 refine h.imp fun {a b} hab=>?_
 rw[Kum,Kuk _ _ hab];rfl
theorem Kuo{V:Type}{m:List (Str×V)}{key:V→Str}(h:SM m)(hk:∀ e∈m,key e.2=e.1){r:List V}(hp:r.Perm (m.map (·.2)))(hs:r.Pairwise fun x y=>Op.bytesLess (key y) (key x)=false):r=m.map (·.2):=by
 have hm:(m.map (·.2)).Pairwise fun x y=>Op.bytesLess (key x) (key y)=true:=by
  rw[List.pairwise_map]
  refine List.Pairwise.imp_of_mem (fun {a b} ha hb hab=>?_) h
  rw[hk a ha,hk b hb]
  exact hab
 refine List.Perm.eq_of_pairwise (le:=fun x y=>Op.bytesLess (key y) (key x)=false) (fun a b ha hb h1 h2=>?_) hs (hm.imp fun hab=>Kuk _ _ hab) hp
 have hab:=Kwm _ _ h2 h1
 obtain⟨e,he,rfl⟩:=List.mem_map.1 (hp.mem_iff.1 ha)
 obtain⟨e',he',rfl⟩:=List.mem_map.1 hb
 rw[hk e he,hk e' he'] at hab
 have h3:=h.get (k:=e.1) (v:=e.2) he
 have h4:=h.get (k:=e'.1) (v:=e'.2) he'
 rw[hab,h4] at h3
 exact(Option.some.inj h3).symm
theorem Kup:∀ (l T:List Str),l.Nodup→(∀ x∈l,x∈T)→l.length≤T.length
 | [],T,_,_=>Nat.zero_le _
 | x :: l,T,h,hs=>by
  obtain⟨h1,h2⟩:=List.nodup_cons.1 h
  have hx:x∈T:=hs x List.mem_cons_self
  have h3:=Kup l (T.erase x) h2 fun y hy=>(List.mem_erase_of_ne (show y≠x from fun e=>h1 (by subst e;exact hy))).2 (hs y (List.mem_cons_of_mem _ hy))
  have h4:=List.length_erase_of_mem hx
  have h5:0<T.length:=List.length_pos_of_mem hx
  simp only[List.length_cons]
  omega
theorem SM.len{V:Type}{m:List (Str×V)}(h:SM m){T:List Str}(hk:∀ e∈m,e.1∈T):m.length≤T.length:=by
 have hn:(m.map (·.1)).Nodup:=by
  rw[List.nodup_iff_pairwise_ne,List.pairwise_map]
  exact h.imp fun hab=>Kwn hab
 have:=Kup _ T hn fun x hx=>by
  obtain⟨e,he,rfl⟩:=List.mem_map.1 hx
  exact hk e he
 simpa using this
end Go.Gk
