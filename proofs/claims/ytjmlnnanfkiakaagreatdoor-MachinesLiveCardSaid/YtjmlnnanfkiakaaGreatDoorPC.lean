import Derived.Test.YtjmlnnanfkiakaaGreatDoorPB
set_option linter.all false
set_option maxRecDepth 100000
namespace Go.Gk
section
variable{α:Type}{lt:α→α→Bool}
structure Ord(lt:α→α→Bool):Prop where
 as:∀ a b,lt a b=true→lt b a=false
 tr:∀ a b c,lt a b=false→lt b c=false→lt a c=false
theorem Kvh(A:List α)(p q:α)(X:List α):((A++p :: q :: X).set (A.length+1) p).set A.length q=A++q :: p :: X:=by
 rw[List.set_append_right _ _ (by omega),List.set_append_right _ _ (by omega)]
 simp
theorem Kvi(O:Ord lt){cmp:α→α→Option Int}(hcmp:∀ x y,∃ c,cmp x y=some c∧decide (c<0)=lt x y){f:(List α)×Int→Option (LS ((List α)×Int) (List α))}
  (hf:∀ s13,f s13=bi (bif decide ((s13.2:Int)>0) then(bi (getZ s13.1 s13.2) fun x25=>bi (getZ s13.1 (wi (s13.2 - 1))) fun x28=>bi (cmp x25 x28) fun y31=>some (decide ((y31:Int)<0))) else(some false)) fun q22=>bif q22 then(bi (getZ s13.1 (wi (s13.2 - 1))) fun x35=>bi (getZ s13.1 s13.2) fun x38=>bi (getZ s13.1 s13.2) fun x41=>bi (getZ s13.1 (wi (s13.2 - 1))) fun x44=>bi (getZ (s13.1.set s13.2.toNat x35) (((wi (s13.2 - 1)).toNat:Nat):Int)) fun x47=>some (.go ((s13.1.set s13.2.toNat x35).set ((wi (s13.2 - 1)).toNat) x38,wi (s13.2 - 1)))) else(some (.out s13.1))) :
  ∀ (k:Nat) (A B C:List α) (q:α),(A++B).Pairwise (fun x y=>lt y x=false)→(∀ b∈B,lt q b=true)→A.length<k→A.length≤100→
   ∃ D,loopM f k (A++q :: (B++C),(A.length:Int))=some (D++C)∧D.Pairwise (fun x y=>lt y x=false)∧D.length=A.length+1+B.length∧(D++C).Perm (A++q :: (B++C))
 | 0,A,B,C,q,_,_,h,_=>absurd h (Nat.not_lt_zero _)
 | k+1,A,B,C,q,hp,hB,hk,hl=>by
  have hq:(A++q :: (B++C))[A.length]?=some q:=by simp
  unfold loopM
  rw[hf]
  by_cases hA:A=[]
  ·subst hA
   refine⟨q :: B,by simp,?_,by simp;omega,by simp⟩
   rw[List.pairwise_cons]
   exact⟨fun b hb=>O.as _ _ (hB b hb),by simpa using hp⟩
  ·obtain⟨A',p,rfl⟩:∃ a x,A=a++[x]:=⟨A.dropLast,A.getLast hA,(List.dropLast_concat_getLast hA).symm⟩
   have hlen:(A'++[p]).length=A'.length+1:=by simp
   have hpj:((A'++[p])++q :: (B++C))[A'.length]?=some p:=by simp
   have hw:wi (((A'++[p]).length:Int) - 1)=(A'.length:Int):=by rw[hlen,Lbf (by omega) (by omega)];omega
   have hst:(A'++[p])++q :: (B++C)=A'++p :: q :: (B++C):=by simp
   simp only
   rw[dT (show((A'++[p]).length:Int)>0 by rw[hlen];omega)]
   obtain⟨c,hc1,hc⟩:=hcmp q p
   simp only[cond_true,hw,getZ_cast,hq,hpj,bi_some,hc1]
   cases hlt:lt q p with
   | true=>
    rw[hc,hlt]
    simp only[cond_true,Int.toNat_natCast,bi_some]
    have e1:(((A'++[p])++q :: (B++C)).set (A'++[p]).length p)[A'.length]?=some p:=by rw[gSn (by rw[hlen];omega)];exact hpj
    rw[e1]
    simp only[bi_some]
    rw[hlen,hst,Kvh]
    obtain⟨D,d1,d2,d3,d4⟩:=Kvi O hcmp hf k A' (p :: B) C q (by simpa using hp) (fun b hb=>by
     rcases List.mem_cons.1 hb with rfl | hb
     ·exact hlt
     ·exact hB b hb) (by omega) (by omega)
    refine⟨D,d1,d2,by rw[d3];simp;omega,d4.trans ?_⟩
    exact(List.Perm.swap p q (B++C)).append_left A'
   | false=>
    rw[hc,hlt]
    refine⟨(A'++[p])++q :: B,by simp,?_,by simp;omega,by simp⟩
    rw[List.pairwise_append] at hp ⊢
    refine⟨hp.1,?_,fun x hx y hy=>?_⟩
    ·rw[List.pairwise_cons]
     exact⟨fun b hb=>O.as _ _ (hB b hb),hp.2.1⟩
    ·rcases List.mem_cons.1 hy with rfl | hy
     ·rcases List.mem_append.1 hx with hx | hx
      ·exact O.tr _ _ _ hlt ((List.pairwise_append.1 hp.1).2.2 x hx p (by simp))
      ·simp only[List.mem_singleton] at hx
       subst hx;exact hlt
     ·exact hp.2.2 x hx y hy
theorem Kvj(O:Ord lt){cmp:α→α→Option Int}(hcmp:∀ x y,∃ c,cmp x y=some c∧decide (c<0)=lt x y){f:(List α)×Int→Option (LS ((List α)×Int) (List α))}
  (hf:∀ s13,f s13=bi (bif decide ((s13.2:Int)>0) then(bi (getZ s13.1 s13.2) fun x25=>bi (getZ s13.1 (wi (s13.2 - 1))) fun x28=>bi (cmp x25 x28) fun y31=>some (decide ((y31:Int)<0))) else(some false)) fun q22=>bif q22 then(bi (getZ s13.1 (wi (s13.2 - 1))) fun x35=>bi (getZ s13.1 s13.2) fun x38=>bi (getZ s13.1 s13.2) fun x41=>bi (getZ s13.1 (wi (s13.2 - 1))) fun x44=>bi (getZ (s13.1.set s13.2.toNat x35) (((wi (s13.2 - 1)).toNat:Nat):Int)) fun x47=>some (.go ((s13.1.set s13.2.toNat x35).set ((wi (s13.2 - 1)).toNat) x38,wi (s13.2 - 1)))) else(some (.out s13.1)))
  (n:Nat) (hn:n≤100) (k1:Nat) (hk1:200≤k1) {f2:(List α)×Int→Option (LS ((List α)×Int) (List α))}
  (hf2:∀ s2,f2 s2=bif decide ((s2.2:Int)<(n:Int)) then(bi (loopM f k1 (s2.1,s2.2)) fun q15=>some (.go (q15,wi (s2.2+1)))) else(some (.out s2.1))) :
  ∀ (k:Nat) (S C:List α),S.Pairwise (fun x y=>lt y x=false)→(S++C).length=n→C.length<k→
   ∃ m,loopM f2 k (S++C,(S.length:Int))=some m∧m.Pairwise (fun x y=>lt y x=false)∧m.length=n∧m.Perm (S++C)
 | 0,S,C,_,_,h=>absurd h (Nat.not_lt_zero _)
 | k+1,S,C,hS,hl,hk=>by
  unfold loopM
  rw[hf2]
  cases C with
  | nil=>
   simp only[List.append_nil] at hl ⊢
   rw[dF (show ¬ (S.length:Int)<(n:Int) by omega)]
   exact⟨S,rfl,hS,hl,.refl _⟩
  | cons q C=>
   have hl':S.length+(C.length+1)=n:=by simpa using hl
   simp only
   rw[dT (show(S.length:Int)<(n:Int) by omega)]
   obtain⟨D,d1,d2,d3,d4⟩:=Kvi O hcmp hf k1 S [] C q (by simpa using hS) (fun b hb=>by cases hb) (by omega) (by omega)
   simp only[List.nil_append] at d1 d4
   simp only[List.length_nil,Nat.add_zero] at d3
   simp only[cond_true,d1,bi_some]
   have hw:wi ((S.length:Int)+1)=(D.length:Int):=by rw[Lbf (by omega) (by omega),d3];omega
   rw[hw]
   obtain⟨m,m1,m2,m3,m4⟩:=Kvj O hcmp hf n hn k1 hk1 hf2 k D C d2 (by simp;omega) (by simp at hk;omega)
   exact⟨m,m1,m2,m3,m4.trans d4⟩
end
theorem Kvk:∀ a b:Str,decide (Lib.compareBytes a b<0)=Op.bytesLess a b
 | [],[]=>rfl
 | [],_ :: _=>rfl
 | _ :: _,[]=>rfl
 | a :: x,b :: y=>by
  unfold Lib.compareBytes Op.bytesLess
  by_cases h1:a<b
  ·simp[h1]
  by_cases h2:b<a
  ·have hne:(a==b)=false:=by
    rw[beq_eq_false_iff_ne]
    intro e
    subst e
    exact h1 h2
   simp[h1,h2,hne]
  have he:a=b:=UInt8.le_antisymm (UInt8.not_lt.1 h2) (UInt8.not_lt.1 h1)
  subst he
  simp[h1,Kvk x y]
theorem Kvl(a b:Str)(h:Op.bytesLess a b=true):Op.bytesLess b a=false:=by
 cases h2:Op.bytesLess b a with
 | false=>rfl
 | true=>have:=Lag _ _ _ h h2;rw[Laf] at this;cases this
theorem Kvm(a b c:Str)(h1:Op.bytesLess a b=false)(h2:Op.bytesLess b c=false):Op.bytesLess a c=false:=by
 cases h3:Op.bytesLess a c with
 | false=>rfl
 | true=>
  cases h4:Op.bytesLess b a with
  | true=>have:=Lag _ _ _ h4 h3;rw[h2] at this;cases this
  | false=>
   have:=Lah _ _ h1 h4
   subst this
   rw[h2] at h3;cases h3
theorem Kvn:∀ a b:Str,decide (a≤b)=!Op.bytesLess b a
 | [],b=>by
  have h1:([]:Str)≤b:=List.nil_le b
  rw[dT h1]
  cases b<;>rfl
 | a :: x,[]=>by
  have h1:¬ (a :: x≤([]:Str)):=by simp
  rw[dF h1];rfl
 | a :: x,b :: y=>by
  have ih:=Kvn x y
  unfold Op.bytesLess
  rw[Bool.eq_iff_iff]
  have ih':x≤y ↔ Op.bytesLess y x=false:=by
   rw[←decide_eq_true_iff (p:=x≤y),ih];simp
  rw[decide_eq_true_iff,List.cons_le_cons_iff]
  by_cases h1:a<b
  ·have h2:¬ b<a:=fun h=>by have:=UInt8.lt_trans h1 h;exact UInt8.lt_irrefl _ this
   have h3:(b==a)=false:=by
    rw[beq_eq_false_iff_ne];intro e;subst e;exact h2 h1
   simp[h1,h2,h3]
  by_cases h2:b<a
  ·have h3:¬ a=b:=by intro e;subst e;exact h1 h2
   simp[h1,h2,h3]
  have he:a=b:=UInt8.le_antisymm (UInt8.not_lt.1 h2) (UInt8.not_lt.1 h1)
  subst he
  simp[h1,ih']
theorem Kvo{V:Type}{m:List (Str×V)}(h:SM m):sortK m=m.map (·.1):=by
 unfold sortK
 refine List.mergeSort_of_pairwise ?_
 rw[List.pairwise_map]
 refine h.imp fun {a b} hab=>?_
 rw[Kvn,Kvl _ _ hab];rfl
theorem Kvp{V:Type}{m:List (Str×V)}{key:V→Str}(h:SM m)(hk:∀ e∈m,key e.2=e.1){r:List V}(hp:r.Perm (m.map (·.2)))(hs:r.Pairwise fun x y=>Op.bytesLess (key y) (key x)=false):r=m.map (·.2):=by
 have hm:(m.map (·.2)).Pairwise fun x y=>Op.bytesLess (key x) (key y)=true:=by
  rw[List.pairwise_map]
  refine List.Pairwise.imp_of_mem (fun {a b} ha hb hab=>?_) h
  rw[hk a ha,hk b hb]
  exact hab
 refine List.Perm.eq_of_pairwise (le:=fun x y=>Op.bytesLess (key y) (key x)=false) (fun a b ha hb h1 h2=>?_) hs (hm.imp fun hab=>Kvl _ _ hab) hp
 have hab:=Lah _ _ h2 h1
 obtain⟨e,he,rfl⟩:=List.mem_map.1 (hp.mem_iff.1 ha)
 obtain⟨e',he',rfl⟩:=List.mem_map.1 hb
 rw[hk e he,hk e' he'] at hab
 have h3:=h.get (k:=e.1) (v:=e.2) he
 have h4:=h.get (k:=e'.1) (v:=e'.2) he'
 rw[hab,h4] at h3
 exact(oSi h3).symm
theorem Kvq:∀ (l T:List Str),l.Nodup→(∀ x∈l,x∈T)→l.length≤T.length
 | [],T,_,_=>Nat.zero_le _
 | x :: l,T,h,hs=>by
  obtain⟨h1,h2⟩:=List.nodup_cons.1 h
  have hx:x∈T:=hs x mCs
  have h3:=Kvq l (T.erase x) h2 fun y hy=>(List.mem_erase_of_ne (show y≠x from fun e=>h1 (by subst e;exact hy))).2 (hs y (mCo _ hy))
  have h4:=List.length_erase_of_mem hx
  have h5:0<T.length:=List.length_pos_of_mem hx
  simp only[List.length_cons]
  omega
theorem SM.len{V:Type}{m:List (Str×V)}(h:SM m){T:List Str}(hk:∀ e∈m,e.1∈T):m.length≤T.length:=by
 have hn:(m.map (·.1)).Nodup:=by
  rw[List.nodup_iff_pairwise_ne,List.pairwise_map]
  exact h.imp fun hab=>Lai hab
 have:=Kvq _ T hn fun x hx=>by
  obtain⟨e,he,rfl⟩:=List.mem_map.1 hx
  exact hk e he
 simpa using this
end Go.Gk
namespace Go.Gk
theorem Kur{V:Type}{m:List (Str×V)}{T:List Str}{k:Str}{v:V}(h:∀ e∈m,e.1∈T)(hk:k∈T):∀ e∈mSet m k v,e.1∈T:=by
 intro e he
 unfold mSet at he
 split at he
 ·rcases List.mem_or_eq_of_mem_set he with h1 | rfl
  ·exact h e h1
  exact hk
 rcases List.mem_append.1 ((Kho k v m).mem_iff.1 he) with h1 | h1
 ·exact h e h1
 rw[List.mem_singleton.1 h1];exact hk
theorem Kus{V:Type}{m:List (Str×V)}{T:List Str}{k:Str}(h:∀ e∈m,e.1∈T):∀ e∈mDel m k,e.1∈T:=by
 intro e he
 unfold mDel at he
 split at he
 ·exact h e (List.mem_of_mem_eraseIdx he)
 exact h e he
structure KInv(A:Ab):Prop where
 th:∀ e∈A.th,e.1∈ndT
 ps:∀ e∈A.ps,e.1∈jnT
 pk:∀ k p,mGet A.ps k=some p→p.Join.Key=k
theorem Kut{m:List (Str×Lfg)}{k0:Str}{v:Lfg}(h:∀ k p,mGet m k=some p→p.Join.Key=k)(hv:v.Join.Key=k0):∀ k p,mGet (mSet m k0 v) k=some p→p.Join.Key=k:=fun k p hp=>by
 rw[Laq] at hp
 split at hp
 ·rename_i hq
  cases hp
  rw[hv];exact(beq_iff_eq.1 hq).symm
 exact h k p hp
theorem Kuu{c:Bool}{x y:Int×Ab}(h1:KInv x.2)(h2:KInv y.2):KInv (bif c then x else y).2:=by cases c<;>assumption
section
variable{A:Ab}{s:Ley}
theorem Kuv(hK:KInv A){z:Int}{m:Lfc}{key:Bool}(hm:m.Node∈ndT):KInv (setA A z m key):=⟨Kur hK.th hm,hK.ps,hK.pk⟩
theorem Kuw(hI:AInv A)(hK:KInv A)(hs:StepOk s):KInv (stepA A s).2:=by
 unfold stepA
 refine Kuu ?_ (Kuu hK (Kuu ?_ (Kuu ?_ ?_)))
 ·unfold joinA
  have hB:∀ op:Option Lfg,(∀ p,op=some p→mGet A.ps s.Join=some p)→KInv (joinB A s op).2:=fun op hop=>by
   unfold joinB
   refine Kuu hK (Kuu hK (Kuu hK ?_))
   unfold joinC
   cases op with
   | none=>exact⟨Kur (k:=s.Node) hK.th hs.nd,hK.ps,hK.pk⟩
   | some p=>exact⟨Kur (k:=s.Node) hK.th hs.nd,Kur hK.ps hs.jn,Kut hK.pk (show p.Join.Key=s.Join from hK.pk _ p (hop p rfl))⟩
  refine Kuu hK (Kuu hK ?_)
  split
  ·exact hB none fun p e=>by cases e
  rename_i p hp
  exact Kuu hK (hB _ fun p' e=>by cases e;exact hp)
 ·unfold keyA
  split
  ·exact hK
  exact Kuu hK (Kuu hK ⟨hK.th,Kur hK.ps hs.jn,Kut hK.pk rfl⟩)
 ·unfold revA
  split
  ·exact hK
  rename_i p hp
  exact Kuu hK (Kuu hK ⟨hK.th,Kur hK.ps hs.jn,Kut hK.pk (show p.Join.Key=s.Join from hK.pk _ p hp)⟩)
 split
 ·exact hK
 rename_i m hm
 have hn:m.Node∈ndT:=by rw[(hI.th _ _ hm).1];exact hs.nd
 refine Kuu hK ?_
 unfold turnA
 refine Kuu (Kuu hK (Kuv hK hn)) (Kuu (Kuu hK ⟨Kur (k:=m.Node) hK.th hn,hK.ps,hK.pk⟩) (Kuu (Kuu hK (Kuv hK hn)) (Kuu (Kuu hK (Kuu hK (Kuv hK hn))) (Kuu (Kuu hK (Kuv hK hn)) ⟨Kus hK.th,hK.ps,hK.pk⟩))))
theorem Kux:∀ {l:List Ley} {A:Ab},AInv A→KInv A→AllV l→KInv (runA A l)
 | [],_,_,hK,_=>hK
 | x :: l,A,hI,hK,h=>Kux (A:=(stepA A x).2) (Ksg hI (h x mCs)) (Kuw hI hK (h x mCs).ok) fun s hs=>h s (mCo _ hs)
theorem A0_k(d:Lex):KInv (A0 d):=⟨fun e h=>(by cases h),fun e h=>(by cases h),fun k p h=>(by cases h)⟩
theorem Kuy:∀ x∈ndT,x.length≤4294967296:=by decide
structure Fit(A:Ab):Prop where
 inv:AInv A
 k:KInv A
theorem Kuz{d:Lex}{l:List Ley}(hl:AllV l):Fit (runA (A0 d) l):=⟨Ktg (A0_inv d) hl,Kux (A0_inv d) (A0_k d) hl⟩
theorem Fit.thn(h:Fit A):A.th.length≤5:=h.inv.sth.len h.k.th
theorem Kva{V:Type}{m:List (Str×V)}{T:List Str}(h:∀ e∈m,e.1∈T)(hn:m.length≤100)(hT:∀ x∈T,x.length≤4294967296):((decide (m.length≤4294967296))&&m.all (fun e=>decide (e.1.length≤4294967296)))=true:=by
 rw[Bool.and_eq_true]
 exact⟨dT (by omega),lAe.2 fun e he=>dT (hT _ (h e he))⟩
theorem Fit.node(h:Fit A):∀ e∈A.th,e.2.Node=e.1:=fun e he=>(h.inv.th e.1 e.2 (h.inv.sth.get he)).1
end
end Go.Gk
namespace Go.Gk
theorem Kvr(n:Nat)(h:n≤5):∃ y,Lkc (IntKind.u64.wrap ((n:Int)))=some y:=by
 rcases(show n=0∨n=1∨n=2∨n=3∨n=4∨n=5 by omega) with rfl | rfl | rfl | rfl | rfl | rfl<;>exact⟨_,rfl⟩
theorem Kvs:Ord (fun x y:Lfc=>Op.bytesLess x.Node y.Node):=⟨fun a b=>Kvl _ _,fun a b c=>Kvm _ _ _⟩
theorem Kvt(x y:Lfc):∃ c,Lkd x y=some c∧decide (c<0)=Op.bytesLess x.Node y.Node:=⟨Lib.compareBytes x.Node y.Node,rfl,Kvk _ _⟩
theorem Kvu(x:List Lfc)(hl:x.length≤5):∃ m,Lke 400 x 0 (x.length:Int)=some m∧m.Pairwise (fun x y=>Op.bytesLess y.Node x.Node=false)∧m.length=x.length∧m.Perm x:=by
 cases x with
 | nil=>exact⟨[],rfl,List.Pairwise.nil,rfl,.refl _⟩
 | cons q C=>
  obtain⟨m,m1,m2,m3,m4⟩:=Kvj (cmp:=Lkd) Kvs Kvt (fun _=>rfl) (q :: C).length (by omega) 400 (by decide) (fun _=>rfl) 400 [q] C (List.pairwise_singleton _ _) rfl (by simp at hl;omega)
  refine⟨m,?_,m2,m3,by simpa using m4⟩
  unfold Lke
  have m1':=m1
  simp only[List.singleton_append,List.length_singleton] at m1'
  rw[show wi (0+1)=((1:Nat):Int) from rfl,m1']
  rfl
theorem Kvv(x:List Lfc)(h:x.length≤5):∃ m,Lkg 400 x=some m∧m.Pairwise (fun x y=>Op.bytesLess y.Node x.Node=false)∧m.length=x.length∧m.Perm x:=by
 obtain⟨r,h1,h2,h3,h4⟩:=Kvu x h
 refine⟨r,?_,h2,h3,h4⟩
 unfold Lkg
 obtain⟨y,hy⟩:=Kvr x.length h
 rw[hy,bi_some]
 unfold Lkf
 have hw:wi ((x.length:Int) - 0)=x.length:=by rw[Lbf (by omega) (by omega)];omega
 refine Lci (r:=r) (Lci (r:=r) (Lef ?_) rfl) rfl
 rw[hw,dT (show(x.length:Int)≤12 by omega),h1]
 rfl
end Go.Gk
namespace Go.Gk
abbrev upA(d:Lex)(l:List Ley)(z:Int):Ab:=runA (A0 d) (l.filter fun s=>decide (s.At≤z))
theorem Kvb{l:List Ley}(h:AllV l){p:Ley→Bool}:AllV (l.filter p):=fun s hs=>h s (List.mem_filter.1 hs).1
section
variable{A:Ab}{n:Lfe}{al:BagT}{c:Nat}{v:Lfh}
theorem Kvc{m:Lfc}(h:m.Tags.length≤10):Lip m=some m:=by
 unfold Lip
 rw[Kto h];rfl
theorem Kvd(h:RN n al A c)(hF:Fit A):Liq n=some (A.th.map (·.2)):=by
 have hn:=hF.thn
 have key:Ok (Liq n) fun r=>r=A.th.map (·.2):=by
  unfold Liq
  rw[h.th,Kvo hF.inv.sth]
  refine Ldp (Kva hF.k.th (by omega) Kuy) ?_
  refine Ldl (Ldq (fun i (st:List Lfc)=>st=(A.th.map (·.2)).take i) rfl fun i k st hk hI=>?_) fun st hst=>Ldk ?_
  ·rw[gMp] at hk
   obtain⟨e,he,rfl⟩:=oMs.1 hk
   have hm:=hF.inv.sth.get (k:=e.1) (v:=e.2) (mOg he)
   rw[hm,Option.getD_some]
   refine Ldm (Kvc (hF.inv.th _ _ hm).2.2.2) ?_
   have hi:i<A.th.length:=(gEs.1 he).1
   refine Ldv (by rw[hI];simp only[List.length_take,List.length_map,List.length_cons,List.length_nil];omega) (Ldk ?_)
   rw[hI]
   have:(A.th.map (·.2))[i]?=some e.2:=by rw[gMp,he];rfl
   rw[Ldh this]
  rw[hst,List.length_map,List.take_of_length_le (by simp)]
 obtain⟨r,h1,rfl⟩:=key
 exact h1
theorem Kve{X:Type}(x0:X){ar:List (Nat×X)}{m:List (Str×Nat)}(h:HOk ar m){e:Str×Nat}(he:e∈m):∃ x,mGet m e.1=some e.2∧hGet ar e.2=some x∧0<e.2∧(hGet ar e.2).getD x0=x:=by
 have h1:=h.sm.get (k:=e.1) (v:=e.2) he
 obtain⟨x,hx⟩:=h.ok _ _ h1
 exact⟨x,h1,hx,Kla hx,by rw[hx];rfl⟩
theorem Kvf{X Y:Type}{f:X→List Y→Option (List Y)}(val:X→Y):∀ (m:List X) (s:List Y),(∀ e∈m,∀ s:List Y,s.length≤1000→f e s=some (s++[val e]))→s.length+m.length≤1000→rangeL f m s=some (s++m.map val)
 | [],s,_,_=>by simp[rangeL]
 | x :: m,s,h,hl=>by
  simp only[List.length_cons] at hl
  simp only[rangeL]
  rw[h x mCs s (by omega)]
  simp only
  rw[Kvf val m (s++[val x]) (fun e he=>h e (mCo _ he)) (by simp only[List.length_append,List.length_cons,List.length_nil];omega)]
  simp
end
theorem Kvg{d:Lex}{l:List Ley}(hl:AllV l)(hlen:l.length≤1000)(hs:Srt l)(z:Int){al:BagT}(hb:BagOk al) :
  ∃ al',Lkh 400 d l z al=some ((upA d l z).th.map (·.2),al')∧BagOk al':=by
 obtain⟨v,al',h1,h2⟩:=Ktm (d:=d) hl hlen hs z hb
 have hF:Fit (upA d l z):=Kuz (Kvb hl)
 refine⟨al',?_,h2.bag⟩
 unfold Lkh
 rw[h1,bi_some]
 refine Kno fun m' hm'=>?_
 have hlen2:v.nodes.length≤5:=by
  have:=hF.thn
  rw[←h2.ns,Ksv] at this
  exact this
 have hml:m'.length=v.nodes.length:=hm'.length_eq
 have hperm:(m'.map fun e=>(hGet al'.2.2.2.1 e.2).getD mac0).Perm ((upA d l z).th.map (·.2)):=by
  rw[←h2.ns]
  unfold absH
  rw[List.map_map]
  exact hm'.map _
 refine⟨m'.map fun e=>(hGet al'.2.2.2.1 e.2).getD mac0,?_,?_⟩
 ·rw[Kvf (fun e:Str×Nat=>(hGet al'.2.2.2.1 e.2).getD mac0) m' [] (fun e he s hsl=>?_) (by simp;omega)]
  ·rfl
  ·obtain⟨x,g1,g2,g3,g4⟩:=Kve mac0 h2.nh (hm'.mem_iff.1 he)
   rw[g4]
   have hg:Nat.blt 0 e.2=true:=Nat.ble_eq_true_of_le g3
   simp only[hg,gd_true]
   rw[g2,bi_some,Lbm (by simp only[List.length_cons,List.length_nil];omega)]
   rfl
 ·obtain⟨r,r1,r2,r3,r4⟩:=Kvv (m'.map fun e=>(hGet al'.2.2.2.1 e.2).getD mac0) (by rw[List.length_map];omega)
  have e:=Kvp (key:=Lfc.Node) hF.inv.sth hF.node (r4.trans hperm) r2
  rw[r1,bi_some,r3,dT rfl,gd_true,e]
end Go.Gk
namespace Go.Gk
theorem Kun(l:List Str):Lkl l l=some true:=by
 have key:Ok (Lkl l l) fun r=>r=true:=by
  unfold Lkl
  refine ok_f (by simp) ?_
  refine Ldl (Lds (fun _ (_:Unit)=>True) (fun _=>False) trivial fun i x st hx _=>?_) fun r hr=>?_
  ·refine Ldu (j:=i) rfl hx (ok_f (by simp) (Ldk trivial))
  cases r with
  | out q=>exact hr.elim
  | go s=>exact Ldk rfl
 obtain⟨r,h,rfl⟩:=key
 exact h
theorem Kuo(a b c:Int):Lgw [a,b,c]=some (if a≠0 then a else if b≠0 then b else c):=by
 unfold Lgw
 by_cases ha:a=0
 ·subst ha
  by_cases hb:b=0
  ·subst hb
   by_cases hc:c=0
   ·subst hc;rfl
   have:(c != 0)=true:=by simpa using hc
   simp[rangeM,this,goI]
  have:(b != 0)=true:=by simpa using hb
  simp[rangeM,this,goI,hb]
 have:(a != 0)=true:=by simpa using ha
 simp[rangeM,this,goI,ha]
section
variable{l:List Int}{b:Int}{s:Lev}
theorem Kup(h:At l 0 b s)(hl:Smal l)(hb:b<4611686018427300000):Ok (Lgy s) fun r=>At l 0 (b+4) r.2:=by
 unfold Lgy
 refine Ldl (Krj h 300 hl (by omega) (by decide) (by decide)) fun y1 h1=>?_
 refine Ldl (Krj h1.2 300 hl (by omega) (by decide) (by decide)) fun y3 h3=>?_
 refine Ldl (Krm h3.2 _ hl (by omega) (by decide) (by decide)) fun y5 h5=>?_
 refine Ldl (Krm h5 _ hl (by omega) (by simp) (by simp)) fun y7 h7=>?_
 exact Ldk (h7.up (Int.le_refl _) (by omega))
end
theorem Kuq{b:Bool}(h:b=true):(bif b then(bi (Lku 400) fun y=>some y) else(some false))=some true:=by subst h;rfl
end Go.Gk
namespace Go.Gk
abbrev stK(A:Ab)(k:Str):List Lfd:=(mGet A.st k).getD []
def isC:Option Lfd→Option Lfc
 | some c=>bif c.gone then none else some c.is
 | none=>none
def Step1(A A':Ab)(z:Int):Prop:=(A'.st=A.st∧A'.th=A.th)∨∃ k c,c.v_at=z∧A'.st=mSet A.st k (stK A k++[c])∧∀ k',mGet A'.th k'=if k'==k then isC (some c) else mGet A.th k'
theorem Kzb{A:Ab}{c:Bool}{x y:Int×Ab}{z:Int}(h1:Step1 A x.2 z)(h2:Step1 A y.2 z):Step1 A (bif c then x else y).2 z:=by cases c;exact h2;exact h1
section
variable{A:Ab}{s:Ley}{z:Int}
theorem Kzc:Step1 A A z:=.inl ⟨rfl,rfl⟩
theorem Kzd{B:Ab}{m:Lfc}{key:Bool}(h1:B.st=A.st)(h2:B.th=A.th)(q:List (Str×List Lfk)):Step1 A { setA B z m key with hi:=q } z:=.inr ⟨m.Node,⟨z,m,false,key⟩,rfl,by show mSet B.st _ _=_;unfold stK;rw[h1],fun k'=>by
 show mGet (mSet B.th m.Node m) k'=_
 rw[Laq,h2];rfl⟩
theorem Kze(hI:AInv A):Step1 A (stepA A s).2 s.At:=by
 unfold stepA
 refine Kzb ?_ (Kzb Kzc (Kzb ?_ (Kzb ?_ ?_)))
 ·unfold joinA
  have hB:∀ op:Option Lfg,Step1 A (joinB A s op).2 s.At:=fun op=>by
   unfold joinB
   refine Kzb Kzc (Kzb Kzc (Kzb Kzc ?_))
   unfold joinC
   cases op with
   | none=>exact Kzd rfl rfl _
   | some p=>exact Kzd rfl rfl _
  refine Kzb Kzc (Kzb Kzc ?_)
  split
  ·exact hB none
  exact Kzb Kzc (hB _)
 ·unfold keyA
  split
  ·exact Kzc
  exact Kzb Kzc (Kzb Kzc (.inl ⟨rfl,rfl⟩))
 ·unfold revA
  split
  ·exact Kzc
  exact Kzb Kzc (Kzb Kzc (.inl ⟨rfl,rfl⟩))
 split
 ·exact Kzc
 rename_i m hm
 refine Kzb Kzc ?_
 unfold turnA
 have tn:∀ {m':Lfc} {key:Bool},Step1 A (setA A s.At m' key) s.At:=fun {m' key}=>Kzd (B:=A) rfl rfl A.hi
 refine Kzb (Kzb Kzc tn) (Kzb (Kzb Kzc (Kzd rfl rfl _)) (Kzb (Kzb Kzc tn) (Kzb (Kzb Kzc (Kzb Kzc tn)) (Kzb (Kzb Kzc tn) ?_))))
 exact .inr ⟨s.Node,⟨s.At,⟨[],[],[],[],[],0,0,false⟩,true,false⟩,rfl,rfl,fun k'=>by
  show mGet (mDel A.th s.Node) k'=_
  rw[Ksr hI.sth];rfl⟩
structure SInv(A:Ab)(z:Int):Prop where
 th:∀ k,mGet A.th k=isC (stK A k).getLast?
 tm:∀ k,∀ c∈stK A k,c.v_at≤z
 so:∀ k,(stK A k).Pairwise fun a b=>a.v_at≤b.v_at
theorem Kzf{A':Ab}{k:Str}{c:Lfd}(h:A'.st=mSet A.st k (stK A k++[c]))(k':Str):stK A' k'=if k'==k then stK A k++[c] else stK A k':=by
 unfold stK
 rw[h,Laq]
 split<;>rfl
theorem SInv.step{A':Ab}{z':Int}(h:SInv A z)(hz:z≤z')(h1:Step1 A A' z'):SInv A' z':=by
 rcases h1 with⟨e1,e2⟩ | ⟨k,c,hc,e1,e2⟩
 ·refine⟨fun k=>?_,fun k c hc=>?_,fun k=>?_⟩
  ·unfold stK;rw[e1,e2];exact h.th k
  ·have:=h.tm k c (by unfold stK at hc ⊢;rw[←e1];exact hc)
   omega
  unfold stK;rw[e1];exact h.so k
 have hg:=Kzf e1
 refine⟨fun k'=>?_,fun k' x hx=>?_,fun k'=>?_⟩
 ·rw[e2,hg]
  split
  ·rw[List.getLast?_append];rfl
  exact h.th k'
 ·rw[hg] at hx
  split at hx
  ·rw[List.mem_append,List.mem_singleton] at hx
   rcases hx with hx | rfl
   ·have:=h.tm k x hx
    omega
   omega
  have:=h.tm k' x hx
  omega
 rw[hg]
 split
 ·refine List.pairwise_append.2 ⟨h.so k,List.pairwise_singleton _ _,fun a ha b hb=>?_⟩
  rw[List.mem_singleton] at hb
  subst hb
  have:=h.tm k a ha
  omega
 exact h.so k'
theorem Kzg{A':Ab}(h1:Step1 A A' z)(k:Str):∃ e,stK A' k=stK A k++e∧∀ c∈e,c.v_at=z:=by
 rcases h1 with⟨e1,e2⟩ | ⟨k0,c,hc,e1,e2⟩
 ·exact⟨[],by unfold stK;rw[e1,List.append_nil],fun c h=>by cases h⟩
 rw[Kzf e1]
 split
 ·rename_i hk
  have:=beq_iff_eq.1 hk
  subst this
  exact⟨[c],rfl,fun x hx=>by rw[List.mem_singleton.1 hx,hc]⟩
 exact⟨[],by rw[List.append_nil],fun c h=>by cases h⟩
end
theorem A0_s(d:Lex):SInv (A0 d) 0:=⟨fun k=>rfl,fun k c h=>(by cases h),fun k=>List.Pairwise.nil⟩
theorem Kzh:∀ {l:List Ley} {A:Ab} {z:Int},SInv A z→AInv A→(∀ s∈l,z≤s.At)→Srt l→AllV l→∃ z',(z'=z∨∃ s∈l,z'=s.At)∧SInv (runA A l) z'
 | [],_,z,h,_,_,_,_=>⟨z,.inl rfl,h⟩
 | x :: l,A,z,h,hI,hz,hs,hV=>by
  have hs':=List.pairwise_cons.1 hs
  obtain⟨z',h1,h2⟩:=Kzh (A:=(stepA A x).2) (z:=x.At) (h.step (hz x mCs) (Kze hI)) (Ksg hI (hV x mCs)) hs'.1 hs'.2 (fun s hs=>hV s (mCo _ hs))
  refine⟨z',.inr ?_,h2⟩
  rcases h1 with rfl | ⟨s,hs,rfl⟩
  ·exact⟨x,mCs,rfl⟩
  exact⟨s,mCo _ hs,rfl⟩
theorem Kzi:∀ {l:List Ley} {A:Ab},AInv A→AllV l→∀ k,∃ e,stK (runA A l) k=stK A k++e∧∀ c∈e,∃ s∈l,c.v_at=s.At
 | [],_,_,_,_=>⟨[],(List.append_nil _).symm,fun c h=>by cases h⟩
 | x :: l,A,hI,hV,k=>by
  obtain⟨e1,h1,h2⟩:=Kzg (Kze (s:=x) hI) k
  obtain⟨e2,h3,h4⟩:=Kzi (A:=(stepA A x).2) (Ksg hI (hV x mCs)) (fun s hs=>hV s (mCo _ hs)) k
  refine⟨e1++e2,?_,fun c hc=>?_⟩
  ·show stK (runA (stepA A x).2 l) k=_
   rw[h3,h1,List.append_assoc]
  rcases List.mem_append.1 hc with hc | hc
  ·exact⟨x,mCs,h2 c hc⟩
  obtain⟨s,hs,e⟩:=h4 c hc
  exact⟨s,mCo _ hs,e⟩
theorem Kzj(A:Ab)(l m:List Ley):runA A (l++m)=runA (runA A l) m:=List.foldl_append
theorem Kzk(z:Int):∀ {l:List Ley},Srt l→l=(l.filter fun s=>decide (s.At≤z))++l.filter fun s=>decide (z<s.At)
 | [],_=>rfl
 | x :: l,h=>by
  have h':=List.pairwise_cons.1 h
  by_cases hx:x.At≤z
  ·have h1:decide (x.At≤z)=true:=dT hx
   have h2:decide (z<x.At)=false:=dF (by omega)
   rw[List.filter_cons,List.filter_cons,h1,h2]
   simp only[if_true,List.cons_append]
   exact congrArg _ (Kzk z h'.2)
  have e1:(x :: l).filter (fun s=>decide (s.At≤z))=[]:=List.filter_eq_nil_iff.2 fun y hy=>by
   rcases List.mem_cons.1 hy with rfl | hy
   ·simpa using hx
   have:=h'.1 y hy
   simp;omega
  have e2:(x :: l).filter (fun s=>decide (z<s.At))=x :: l:=List.filter_eq_self.2 fun y hy=>by
   rcases List.mem_cons.1 hy with rfl | hy
   ·simpa using hx
   have:=h'.1 y hy
   simp;omega
  rw[e1,e2];rfl
section
variable{d:Lex}{l:List Ley}
theorem Kzl(hl:AllV l):upA d l 345686400=runA (A0 d) l:=by
 unfold upA
 rw[List.filter_eq_self.2 fun s hs=>dT (hl s hs).z.2]
theorem Kzm(hl:AllV l)(hs:Srt l)(z:Int):∃ z',(z'=0∨z'≤z)∧SInv (upA d l z) z':=by
 obtain⟨z',h1,h2⟩:=Kzh (A0_s d) (A0_inv d) (fun s h=>(hl s (List.mem_filter.1 h).1).z.1) (hs.filter _) (Kvb (p:=fun s=>decide (s.At≤z)) hl)
 refine⟨z',?_,h2⟩
 rcases h1 with h | ⟨s,hs,rfl⟩
 ·exact .inl h
 exact .inr (by simpa using (List.mem_filter.1 hs).2)
theorem Kzn(hl:AllV l)(hs:Srt l){z:Int}(hz:0≤z)(k:Str):stK (upA d l z) k=(stK (runA (A0 d) l) k).filter fun c=>decide (c.v_at≤z):=by
 obtain⟨z',h1,h2⟩:=Kzm (d:=d) hl hs z
 obtain⟨e,h3,h4⟩:=Kzi (l:=l.filter fun s=>decide (z<s.At)) (A:=upA d l z) (Ktg (A0_inv d) (Kvb hl)) (Kvb hl) k
 have e0:runA (A0 d) l=runA (upA d l z) (l.filter fun s=>decide (z<s.At)):=by
  unfold upA
  rw[←Kzj,←Kzk z hs]
 rw[e0,h3,List.filter_append]
 rw[List.filter_eq_self.2 fun c hc=>?_,List.filter_eq_nil_iff.2 fun c hc=>?_,List.append_nil]
 ·obtain⟨s,hs,e⟩:=h4 c hc
  have:=(List.mem_filter.1 hs).2
  simp only[decide_eq_true_eq] at this ⊢
  omega
 have:=h2.tm k c hc
 simp only[decide_eq_true_eq]
 rcases h1 with h | h<;>omega
theorem Kzo(hl:AllV l)(hs:Srt l){z:Int}(hz:0≤z)(k:Str):mGet (upA d l z).th k=isC ((stK (runA (A0 d) l) k).filter fun c=>decide (c.v_at≤z)).getLast?:=by
 obtain⟨z',h1,h2⟩:=Kzm (d:=d) hl hs z
 rw[h2.th,Kzn hl hs hz]
end
end Go.Gk
namespace Go.Gk
abbrev Win:=Int×Int
def lvC(z:Int):Option Lfd→Bool
 | some c=>!c.gone&&c.is.Approved&&decide (z<c.is.Expires)
 | none=>false
def lv(L:List Lfd)(z:Int):Bool:=lvC z (L.filter fun c=>decide (c.v_at≤z)).getLast?
def toW(L:List Lfd)(i:Nat):Int:=match L[i+1]? with
 | some c=>c.v_at
 | none=>345686400
def addW(a b:Int)(W:List Win):List Win:=match W.getLast? with
 | some w=>bif w.2==a then W.dropLast++[(w.1,b)] else W++[(a,b)]
 | none=>W++[(a,b)]
def winS(L:List Lfd)(i:Nat)(c:Lfd)(W:List Win):List Win:=
 bif c.gone||!c.is.Approved then W else bif decide ((if c.is.Expires<toW L i then c.is.Expires else toW L i)≤c.v_at) then W else addW c.v_at (if c.is.Expires<toW L i then c.is.Expires else toW L i) W
def winF(L:List Lfd):Nat→List Lfd→List Win→List Win
 | _,[],W=>W
 | i,c :: l,W=>winF L (i+1) l (winS L i c W)
def wins(L:List Lfd):List Win:=winF L 0 L []
structure WinOk(W:List Win):Prop where
 ne:∀ w∈W,w.1<w.2
 ap:W.Pairwise fun a b=>a.2<b.1
abbrev inW(W:List Win)(z:Int):Prop:=∃ w∈W,w.1≤z∧z<w.2
theorem Kzp(W V:List Win)(z:Int):inW (W++V) z ↔ inW W z∨inW V z:=by
 constructor
 ·rintro⟨w,hw,h⟩
  rcases List.mem_append.1 hw with hw | hw
  ·exact .inl ⟨w,hw,h⟩
  exact .inr ⟨w,hw,h⟩
 rintro(⟨w,hw,h⟩ | ⟨w,hw,h⟩)
 ·exact⟨w,List.mem_append_left _ hw,h⟩
 exact⟨w,List.mem_append_right _ hw,h⟩
theorem Kzq(w:Win)(z:Int):inW [w] z ↔ w.1≤z∧z<w.2:=⟨fun ⟨v,hv,h⟩=>by rw[List.mem_singleton.1 hv] at h;exact h,fun h=>⟨w,List.mem_singleton.2 rfl,h⟩⟩
theorem Kzr{W:List Win}{a b:Int}(h:WinOk W)(ht:∀ w∈W,w.2≤a)(hab:a<b):WinOk (addW a b W)∧(∀ w∈addW a b W,w.2≤b)∧∀ z,inW (addW a b W) z ↔ inW W z∨(a≤z∧z<b):=by
 have push:(∀ w∈W,w.2<a)→WinOk (W++[(a,b)])∧(∀ w∈W++[(a,b)],w.2≤b)∧∀ z,inW (W++[(a,b)]) z ↔ inW W z∨(a≤z∧z<b):=fun hl=>by
  refine⟨⟨fun w hw=>?_,List.pairwise_append.2 ⟨h.ap,List.pairwise_singleton _ _,fun x hx y hy=>?_⟩⟩,fun w hw=>?_,fun z=>?_⟩
  ·rcases List.mem_append.1 hw with hw | hw
   ·exact h.ne w hw
   rw[List.mem_singleton.1 hw];exact hab
  ·rw[List.mem_singleton.1 hy];exact hl x hx
  ·rcases List.mem_append.1 hw with hw | hw
   ·have:=ht w hw;omega
   rw[List.mem_singleton.1 hw];exact Int.le_refl _
  rw[Kzp,Kzq]
 unfold addW
 cases hg:W.getLast? with
 | none=>
  have:W=[]:=List.getLast?_eq_none_iff.1 hg
  subst this
  exact push fun w hw=>by cases hw
 | some w=>
  have hW:W=W.dropLast++[w]:=by
   rw[List.getLast?_eq_some_iff] at hg
   obtain⟨V,rfl⟩:=hg
   rw[List.dropLast_concat]
  have hd:WinOk W.dropLast∧∀ x∈W.dropLast,x.2<w.1:=by
   rw[hW] at h
   have:=List.pairwise_append.1 h.ap
   exact⟨⟨fun x hx=>h.ne x (List.mem_append_left _ hx),this.1⟩,fun x hx=>this.2.2 x hx w (List.mem_singleton.2 rfl)⟩
  have hwm:w∈W:=by rw[hW];exact List.mem_append_right _ (List.mem_singleton.2 rfl)
  have hwne:=h.ne w hwm
  have hwt:=ht w hwm
  simp only
  cases e:(w.2==a) with
  | true=>
   have e:=beq_iff_eq.1 e
   simp only[cond_true]
   refine⟨⟨fun x hx=>?_,List.pairwise_append.2 ⟨hd.1.ap,List.pairwise_singleton _ _,fun x hx y hy=>?_⟩⟩,fun x hx=>?_,fun z=>?_⟩
   ·rcases List.mem_append.1 hx with hx | hx
    ·exact hd.1.ne x hx
    rw[List.mem_singleton.1 hx];show w.1<b;omega
   ·rw[List.mem_singleton.1 hy];exact hd.2 x hx
   ·rcases List.mem_append.1 hx with hx | hx
    ·have:=hd.2 x hx;omega
    rw[List.mem_singleton.1 hx];exact Int.le_refl _
   rw[Kzp,Kzq]
   have e2:inW W z ↔ inW W.dropLast z∨(w.1≤z∧z<w.2):=by
    conv=>lhs;rw[hW]
    rw[Kzp,Kzq]
   rw[e2,or_assoc]
   refine or_congr Iff.rfl ?_
   show w.1≤z∧z<b ↔ _
   omega
  | false=>
   simp only[cond_false]
   have e:¬ w.2=a:=by simpa using e
   refine push fun x hx=>?_
   rw[hW] at hx
   rcases List.mem_append.1 hx with hx | hx
   ·have:=hd.2 x hx;omega
   rw[List.mem_singleton.1 hx];omega
section
variable{L:List Lfd}
def bdW(L:List Lfd)(i:Nat):Int:=match L[i]? with
 | some c=>c.v_at
 | none=>345686400
theorem Kzs(hs:L.Pairwise fun a b=>a.v_at≤b.v_at)(ht:∀ c∈L,c.v_at≤345686400){i:Nat}{c:Lfd}(hc:L[i]?=some c):c.v_at≤bdW L (i+1):=by
 unfold bdW
 cases h:L[i+1]? with
 | none=>exact ht c (mOg hc)
 | some x=>exact Lcz hs (show i<i+1 by omega) hc h
theorem Kzt(hs:L.Pairwise fun a b=>a.v_at≤b.v_at){i:Nat}{c:Lfd}(hc:L[i]?=some c){z:Int}(h1:c.v_at≤z)(h2:z<bdW L (i+1)):(L.filter fun c=>decide (c.v_at≤z)).getLast?=some c:=by
 have hi:i<L.length:=(gEs.1 hc).1
 have e:L=L.take i++c :: L.drop (i+1):=by
  have h:=List.take_append_drop i L
  rw[List.drop_eq_getElem_cons hi,(gEs.1 hc).2] at h
  exact h.symm
 have hd:(L.drop (i+1)).filter (fun c=>decide (c.v_at≤z))=[]:=List.filter_eq_nil_iff.2 fun y hy=>by
  obtain⟨j,hj⟩:=List.getElem?_of_mem hy
  rw[List.getElem?_drop] at hj
  unfold bdW at h2
  have:bdW L (i+1)≤y.v_at:=by
   unfold bdW
   cases h:L[i+1]? with
   | none=>
    have h3:=List.getElem?_eq_none_iff.1 h
    have h4:=(gEs.1 hj).1
    omega
   | some x=>
    by_cases h0:j=0
    ·subst h0;rw[Nat.add_zero,h] at hj;cases hj;exact Int.le_refl _
    exact Lcz hs (show i+1<i+1+j by omega) h hj
  unfold bdW at this
  simp;omega
 rw[e,List.filter_append,List.filter_cons,hd]
 have:decide (c.v_at≤z)=true:=dT h1
 simp[h1]
theorem Kzu(hs:L.Pairwise fun a b=>a.v_at≤b.v_at)(ht:∀ c∈L,c.v_at≤345686400):∀ (l:List Lfd) (i:Nat) (W:List Win),L.drop i=l→WinOk W→(∀ w∈W,w.2≤bdW L i)→(∀ z,z<bdW L i→(inW W z ↔ lv L z=true))→
  WinOk (winF L i l W)∧(∀ w∈winF L i l W,w.2≤345686400)∧∀ z,z<345686400→(inW (winF L i l W) z ↔ lv L z=true)
 | [],i,W,hd,h1,h2,h3=>by
  have hi:L.length≤i:=List.drop_eq_nil_iff.1 hd
  have hb:bdW L i=345686400:=by unfold bdW;rw[List.getElem?_eq_none hi]
  rw[hb] at h2 h3
  exact⟨h1,h2,h3⟩
 | c :: l,i,W,hd,h1,h2,h3=>by
  have hc:L[i]?=some c:=by
   have:=congrArg (fun q=>q[0]?) hd
   simpa using this
  have hd':L.drop (i+1)=l:=by
   rw[←List.drop_drop,hd];rfl
  have hbi:bdW L i=c.v_at:=by unfold bdW;rw[hc]
  have hle:=Kzs hs ht hc
  rw[hbi] at h2 h3
  have htw:toW L i=bdW L (i+1):=rfl
  have hlv:∀ z,c.v_at≤z→z<bdW L (i+1)→lv L z=(!c.gone&&c.is.Approved&&decide (z<c.is.Expires)):=fun z g1 g2=>by
   unfold lv
   rw[Kzt hs hc g1 g2];rfl
  have none_ok:(∀ z,c.v_at≤z→z<bdW L (i+1)→lv L z=false)→WinOk W∧(∀ w∈W,w.2≤bdW L (i+1))∧∀ z,z<bdW L (i+1)→(inW W z ↔ lv L z=true):=fun hn=>by
   refine⟨h1,fun w hw=>Int.le_trans (h2 w hw) hle,fun z hz=>?_⟩
   by_cases hzc:z<c.v_at
   ·exact h3 z hzc
   ·rw[hn z (by omega) hz]
    refine⟨fun ⟨w,hw,g1,g2⟩=>?_,fun h=>by cases h⟩
    have:=h2 w hw
    omega
  have key:WinOk (winS L i c W)∧(∀ w∈winS L i c W,w.2≤bdW L (i+1))∧∀ z,z<bdW L (i+1)→(inW (winS L i c W) z ↔ lv L z=true):=by
   unfold winS
   rw[htw]
   cases hg:(c.gone||!c.is.Approved) with
   | true=>
    refine none_ok fun z g1 g2=>?_
    rw[hlv z g1 g2]
    cases h:c.gone with
    | true=>rfl
    | false=>rw[h,Bool.false_or] at hg;cases h':c.is.Approved with
     | false=>rfl
     | true=>rw[h'] at hg;cases hg
   | false=>
    have hgo:c.gone=false∧c.is.Approved=true:=by
     cases h:c.gone<;>cases h':c.is.Approved<;>simp_all
    simp only[cond_false]
    cases hq:decide ((if c.is.Expires<bdW L (i+1) then c.is.Expires else bdW L (i+1))≤c.v_at) with
    | true=>
     have hq:=of_decide_eq_true hq
     refine none_ok fun z g1 g2=>?_
     rw[hlv z g1 g2,hgo.1,hgo.2]
     have:¬ z<c.is.Expires:=by split at hq<;>omega
     simp[this]
    | false=>
     have hq:=of_decide_eq_false hq
     simp only[cond_false]
     generalize hb:(if c.is.Expires<bdW L (i+1) then c.is.Expires else bdW L (i+1))=b at hq
     have hb1:b≤bdW L (i+1):=by split at hb<;>omega
     have hb2:∀ z,z<bdW L (i+1)→(z<b ↔ z<c.is.Expires):=fun z hz=>by split at hb<;>omega
     obtain⟨k1,k2,k3⟩:=Kzr h1 h2 (show c.v_at<b by omega)
     refine⟨k1,fun w hw=>Int.le_trans (k2 w hw) hb1,fun z hz=>?_⟩
     rw[k3]
     by_cases hzc:z<c.v_at
     ·rw[←h3 z hzc]
      refine⟨fun h=>h.elim id fun g=>?_,.inl⟩
      omega
     ·rw[hlv z (by omega) hz,hgo.1,hgo.2]
      simp only[Bool.not_false,Bool.true_and,decide_eq_true_eq]
      rw[←hb2 z hz]
      refine⟨fun h=>h.elim (fun ⟨w,hw,g1,g2⟩=>?_) fun g=>g.2,fun g=>.inr ⟨by omega,g⟩⟩
      have:=h2 w hw
      omega
  show WinOk (winF L (i+1) l (winS L i c W))∧_
  exact Kzu hs ht l (i+1) _ hd' key.1 key.2.1 key.2.2
theorem Kzv(hs:L.Pairwise fun a b=>a.v_at≤b.v_at)(ht:∀ c∈L,c.v_at≤345686400):WinOk (wins L)∧(∀ w∈wins L,w.2≤345686400)∧∀ z,z<345686400→(inW (wins L) z ↔ lv L z=true):=by
 refine Kzu hs ht L 0 [] rfl ⟨fun w hw=>(by cases hw),List.Pairwise.nil⟩ (fun w hw=>(by cases hw)) fun z hz=>?_
 have:lv L z=false:=by
  unfold lv
  rw[List.filter_eq_nil_iff.2 fun c hc=>?_]
  ·rfl
  obtain⟨j,hj⟩:=List.getElem?_of_mem hc
  unfold bdW at hz
  cases h0:L[0]? with
  | none=>
   have:=List.getElem?_eq_none_iff.1 h0
   have:=(gEs.1 hj).1
   omega
  | some x=>
   rw[h0] at hz
   have hz:z<x.v_at:=hz
   have:x.v_at≤c.v_at:=by
    by_cases h:j=0
    ·subst h;rw[h0] at hj;cases hj;exact Int.le_refl _
    exact Lcz hs (show 0<j by omega) h0 hj
   simp;omega
 rw[this]
 exact⟨fun ⟨w,hw,_⟩=>(by cases hw),fun h=>(by cases h)⟩
end
end Go.Gk
namespace Go.Gk
def cntQ(q:Int→Bool)(a:Int):Nat→Int
 | 0=>0
 | n+1=>cntQ q a n+(if q (a+n) then 1 else 0)
theorem Kxw(q:Int→Bool)(a:Int)(n:Nat):∀ m:Nat,cntQ q a (n+m)=cntQ q a n+cntQ q (a+n) m
 | 0=>by simp[cntQ]
 | m+1=>by
  show cntQ q a (n+m)+(if q (a+((n+m:Nat):Int)) then 1 else 0)=_+(cntQ q (a+n) m+_)
  rw[Kxw q a n m]
  have:a+((n+m:Nat):Int)=a+(n:Int)+(m:Int):=by omega
  rw[this];omega
theorem Kxx{q p:Int→Bool}{a:Int}:∀ (n:Nat),(∀ z,a≤z→z<a+n→q z=p z)→cntQ q a n=cntQ p a n
 | 0,_=>rfl
 | n+1,h=>by
  show cntQ q a n+_=cntQ p a n+_
  rw[Kxx n fun z h1 h2=>h z h1 (by omega),h (a+n) (by omega) (by omega)]
theorem Kxy(a:Int):∀ (n:Nat),cntQ (fun _=>true) a n=n
 | 0=>rfl
 | n+1=>by show cntQ _ a n+_=_;rw[Kxy a n];simp
theorem Kxz(a:Int):∀ (n:Nat),cntQ (fun _=>false) a n=0
 | 0=>rfl
 | n+1=>by show cntQ _ a n+_=_;rw[Kxz a n];simp
theorem Kya(q:Int→Bool)(a:Int):∀ (n:Nat),cntQ q a n≤n
 | 0=>Int.le_refl _
 | n+1=>by
  show cntQ q a n+_≤_
  have:=Kya q a n
  split<;>omega
def mS(q:Int→Bool)(a b:Int):Int:=cntQ q a (b - a).toNat
section
variable{q p:Int→Bool}{a b c:Int}
theorem Kyb(q:Int→Bool)(h1:a≤b)(h2:b≤c):mS q a c=mS q a b+mS q b c:=by
 unfold mS
 have e:(c - a).toNat=(b - a).toNat+(c - b).toNat:=by omega
 have e2:a+((b - a).toNat:Int)=b:=by omega
 rw[e,Kxw,e2]
theorem Kyc(h:∀ z,a≤z→z<b→q z=p z):mS q a b=mS p a b:=Kxx _ fun z h1 h2=>h z h1 (by omega)
theorem Kyd(h0:a≤b)(h:∀ z,a≤z→z<b→q z=true):mS q a b=b - a:=by
 rw[Kyc (p:=fun _=>true) h]
 unfold mS
 rw[Kxy];omega
theorem Kye(h:∀ z,a≤z→z<b→q z=false):mS q a b=0:=by
 rw[Kyc (p:=fun _=>false) h]
 unfold mS
 rw[Kxz]
theorem Kyf(q:Int→Bool)(h:a≤b):mS q a b≤b - a:=by
 have:=Kya q a (b - a).toNat
 unfold mS
 omega
end
def ovW(A B a b:Int):Int:=if 0<(if b<B then b else B) - (if a>A then a else A) then(if b<B then b else B) - (if a>A then a else A) else 0
theorem Kyg(A B a b:Int):0≤ovW A B a b:=by unfold ovW;split<;>omega
abbrev inAB(A B z:Int):Bool:=decide (A≤z)&&decide (z<B)
theorem Kyh{A B a b:Int}(h:a≤b):mS (inAB A B) a b=ovW A B a b:=by
 unfold ovW
 generalize hb:(if b<B then b else B)=hi
 generalize ha:(if a>A then a else A)=lo
 have h1:hi≤b∧hi≤B∧(hi=b∨hi=B):=by split at hb<;>omega
 have h2:a≤lo∧A≤lo∧(lo=a∨lo=A):=by split at ha<;>omega
 split
 ·rw[Kyb _ (show a≤lo by omega) (show lo≤b by omega),Kyb _ (show lo≤hi by omega) (show hi≤b by omega),Kye (a:=a) (b:=lo),Kye (a:=hi) (b:=b),Kyd]
  ·omega
  ·omega
  ·exact fun z g1 g2=>by simp;omega
  ·exact fun z g1 g2=>by simp;omega
  exact fun z g1 g2=>by simp;omega
 exact Kye fun z g1 g2=>by simp;omega
theorem Kyi{A B a b:Int}{q:Int→Bool}{v:Bool}(h:a≤b)(hq:∀ z,a≤z→z<b→q z=v):mS (fun z=>q z&&inAB A B z) a b=if v then ovW A B a b else 0:=by
 cases v with
 | true=>rw[if_pos rfl,←Kyh h];exact Kyc fun z g1 g2=>by rw[hq z g1 g2,Bool.true_and]
 | false=>exact Kye fun z g1 g2=>by rw[hq z g1 g2,Bool.false_and]
def sumW(A B:Int):List Win→Int
 | []=>0
 | w :: W=>ovW A B w.1 w.2+sumW A B W
theorem Kyj(A B:Int):∀ W:List Win,0≤sumW A B W
 | []=>Int.le_refl _
 | w :: W=>by have:=Kyj A B W;have:=Kyg A B w.1 w.2;show 0≤_+_;omega
theorem Kyk(A B:Int)(w:Win):∀ W:List Win,sumW A B (W++[w])=sumW A B W+ovW A B w.1 w.2
 | []=>by simp[sumW]
 | v :: W=>by show _+sumW A B (W++[w])=(_+sumW A B W)+_;rw[Kyk A B w W];omega
theorem Kyl(A B:Int):∀ (W:List Win) (n:Nat),sumW A B (W.take n)≤sumW A B W
 | [],n=>by rw[List.take_nil];exact Int.le_refl _
 | w :: W,0=>Kyj A B (w :: W)
 | w :: W,n+1=>by have:=Kyl A B W n;show _+sumW A B (W.take n)≤_+sumW A B W;omega
theorem Kym{A B E:Int}{q:Int→Bool}:∀ (W:List Win) (a:Int),WinOk W→(∀ w∈W,a≤w.1)→(∀ w∈W,w.2≤E)→a≤E→(∀ z,a≤z→z<E→(inW W z ↔ q z=true))→mS (fun z=>q z&&inAB A B z) a E=sumW A B W
 | [],a,_,_,_,hE,hq=>by
  refine(Kyi hE (v:=false) fun z g1 g2=>?_).trans rfl
  cases h:q z with
  | false=>rfl
  | true=>obtain⟨w,hw,_⟩:=(hq z g1 g2).2 h;cases hw
 | w :: W,a,hW,ha,hb,hE,hq=>by
  have hp:=List.pairwise_cons.1 hW.ap
  have hn:=hW.ne w mCs
  have h1:=ha w mCs
  have h2:=hb w mCs
  rw[Kyb _ h1 (show w.1≤E by omega),Kyb _ (show w.1≤w.2 by omega) h2]
  rw[Kyi (v:=false) h1 fun z g1 g2=>?_,Kyi (v:=true) (show w.1≤w.2 by omega) fun z g1 g2=>?_]
  ·rw[Kym W w.2 ⟨fun x hx=>hW.ne x (mCo _ hx),hp.2⟩ (fun x hx=>by have:=hp.1 x hx;omega) (fun x hx=>hb x (mCo _ hx)) h2 fun z g1 g2=>?_]
   ·show(if false=true then _ else(0:Int))+((if true=true then _ else _)+_)=_
    simp[sumW]
   rw[←hq z (by omega) g2]
   exact⟨fun ⟨x,hx,g⟩=>⟨x,mCo _ hx,g⟩,fun ⟨x,hx,g⟩=>by
    rcases List.mem_cons.1 hx with rfl | hx
    ·omega
    exact⟨x,hx,g⟩⟩
  ·exact(hq z (by omega) (by omega)).1 ⟨w,mCs,g1,g2⟩
  cases h:q z with
  | false=>rfl
  | true=>
   obtain⟨x,hx,g⟩:=(hq z g1 (by omega)).2 h
   rcases List.mem_cons.1 hx with rfl | hx
   ·omega
   have:=hp.1 x hx
   have:=hW.ne x (mCo _ hx)
   omega
def sumC(A B:Int)(q:Int→Bool):List Int→Int
 | a :: b :: l=>(if q a then ovW A B a b else 0)+sumC A B q (b :: l)
 | _=>0
theorem Kyn{A B:Int}{q:Int→Bool}:∀ (l:List Int) (a e:Int),(a :: l).Pairwise (·≤·)→(a :: l).getLast?=some e→(∀ (i:Nat) x y,(a :: l)[i]?=some x→(a :: l)[i+1]?=some y→∀ z,x≤z→z<y→q z=q x)→mS (fun z=>q z&&inAB A B z) a e=sumC A B q (a :: l)
 | [],a,e,_,he,_=>by
  have he:a=e:=by simpa using he
  exact Kye fun z g1 g2=>by omega
 | b :: l,a,e,hs,he,hq=>by
  have hp:=List.pairwise_cons.1 hs
  have he':(b :: l).getLast?=some e:=by rw[←he,List.getLast?_cons_cons]
  have hbe:b≤e:=by
   rcases List.mem_cons.1 (List.mem_of_getLast? he') with h | h
   ·omega
   exact(List.pairwise_cons.1 hp.2).1 e h
  have hab:=hp.1 b mCs
  rw[Kyb _ hab hbe,Kyi hab (hq 0 a b rfl rfl),Kyn l b e hp.2 he' fun i x y h1 h2=>hq (i+1) x y h1 h2]
  rfl
theorem Kyo{W:List Win}(h:WinOk W)(t:Int):(∃ w∈W,t=w.1∨t=w.2) ↔ ¬ (inW W t ↔ inW W (t - 1)):=by
 have two:∀ v∈W,∀ w∈W,v=w∨v.2<w.1∨w.2<v.1:=fun v hv w hw=>by
  obtain⟨i,hi⟩:=List.getElem?_of_mem hv
  obtain⟨j,hj⟩:=List.getElem?_of_mem hw
  by_cases hij:i=j
  ·subst hij;rw[hi] at hj;cases hj;exact .inl rfl
  by_cases hlt:i<j
  ·exact .inr (.inl (Lcz h.ap hlt hi hj))
  exact .inr (.inr (Lcz h.ap (show j<i by omega) hj hi))
 constructor
 ·rintro⟨w,hw,e⟩ hc
  have hn:=h.ne w hw
  rcases e with rfl | rfl
  ·obtain⟨v,hv,g1,g2⟩:=hc.1 ⟨w,hw,Int.le_refl _,hn⟩
   rcases two v hv w hw with rfl | g | g<;>omega
  obtain⟨v,hv,g1,g2⟩:=hc.2 ⟨w,hw,by omega,by omega⟩
  have:=h.ne v hv
  rcases two v hv w hw with rfl | g | g<;>omega
 intro hc
 by_cases h1:inW W t
 ·have h2:¬ inW W (t - 1):=fun g=>hc ⟨fun _=>g,fun _=>h1⟩
  obtain⟨w,hw,g1,g2⟩:=h1
  refine⟨w,hw,.inl ?_⟩
  have:¬ w.1≤t - 1:=fun g=>h2 ⟨w,hw,g,by omega⟩
  omega
 have h2:inW W (t - 1):=Classical.byContradiction fun g=>hc ⟨fun x=>absurd x h1,fun x=>absurd x g⟩
 obtain⟨w,hw,g1,g2⟩:=h2
 refine⟨w,hw,.inr ?_⟩
 have:¬ t<w.2:=fun g=>h1 ⟨w,hw,by omega,g⟩
 omega
end Go.Gk
namespace Go.Gk
def liveM(z:Int)(m:Lfc):Bool:=m.Approved&&decide (z<m.Expires)
theorem Krf(l:List Lfc)(z:Int)(hl:l.length≤37):Liu 400 l z=some (l.filter (liveM z)):=by
 have h1:∀ x∈l,Lir x z=some (!liveM z x):=fun x _=>by
  unfold Lir liveM
  rw[Bool.not_and]
  congr 2
  rw[Bool.eq_iff_iff]
  simp
 have hix:Lis l z=some (ixZ (fun x=>!liveM z x) l):=by
  unfold Lis
  rw[dT (show(l.length:Int)≤9223372036854775807 by omega),gd_true,Lcw (fun x:Lfc=>!liveM z x) l]
  intro j x hx
  simp only[getZ_cast,hx,bi_some,h1 x (List.mem_of_getElem? hx)]
  cases liveM z x<;>rfl
 unfold Liu
 rw[hix]
 simp only[bi_some]
 rw[Lcy (fun x:Lfc=>!liveM z x) (fun x=>Lir x z) l 400 h1 (by omega) (by omega)]
 simp
def lives(A:Ab)(z:Int):List Lfc:=(A.th.map (·.2)).filter (liveM z)
theorem Krg{A:Ab}(hF:Fit A)(z:Int):(lives A z).length≤5:=by
 have:=hF.thn
 have h2:=List.length_filter_le (liveM z) (A.th.map (·.2))
 rw[List.length_map] at h2
 unfold lives
 omega
theorem Krh{A:Ab}{n:Lfe}{al:BagT}{c:Nat}(h:RN n al A c)(hF:Fit A)(z:Int):Liv 400 n z=some (lives A z):=by
 unfold Liv
 have:=hF.thn
 rw[Kvd h hF,bi_some,Krf _ z (by rw[List.length_map];omega)]
 rfl
section
variable{d:Lex}{l:List Ley}{z:Int}{al:BagT}
theorem Kri(hl:AllV l)(hlen:l.length≤1000)(hs:Srt l)(hb:BagOk al):∃ al',Lkk 400 d l z al=some ((lives (upA d l z) z).map (·.Node),al')∧BagOk al':=by
 obtain⟨al',h1,h2⟩:=Kvg (d:=d) hl hlen hs z hb
 have hF:Fit (upA d l z):=Kuz (Kvb hl)
 refine⟨al',?_,h2⟩
 unfold Lkk
 rw[h1,bi_some]
 simp only
 have hn:=hF.thn
 have key:∀ X:List Lfc,X.length≤5→Ok (rangeF (σ:=List Str) (fun i3 x5 s4=>bif (x5.Approved&&(decide ((z:Int)<x5.Expires))) then(bi (apd s4 [x5.Node]) fun y15=>some y15) else(some s4)) 0 X ([]:List Str)) fun r=>r=(X.filter (liveM z)).map (·.Node):=fun X hX=>by
  refine Ldn (Ldq (fun i (st:List Str)=>st=((X.take i).filter (liveM z)).map (·.Node)) rfl fun i m st hm hI=>?_) fun st hst=>by rw[hst,List.take_length]
  have hi:i<X.length:=(gEs.1 hm).1
  have hsl:st.length≤5:=by
   rw[hI,List.length_map]
   have:=List.length_filter_le (liveM z) (X.take i)
   rw[List.length_take] at this
   omega
  rw[Ldh hm,List.filter_append,List.map_append,←hI]
  refine Ldo (fun g=>Ldv (by simp only[List.length_cons,List.length_nil];omega) (Ldk ?_)) fun g=>Ldk ?_
  ·rw[List.filter_cons,show liveM z m=true from g];rfl
  rw[List.filter_cons,show liveM z m=false from g];simp
 obtain⟨r,h3,rfl⟩:=key ((upA d l z).th.map (·.2)) (by rw[List.length_map];omega)
 rw[h3];rfl
end
end Go.Gk
namespace Go.Gk
theorem Kvw:∀ {a b:List Str},a.Pairwise (fun x y=>KLt.lt x y=true)→b.Pairwise (fun x y=>KLt.lt x y=true)→(∀ x,x∈a ↔ x∈b)→a=b
 | [],[],_,_,_=>rfl
 | [],y :: b,_,_,h=>by have:=(h y).2 mCs;cases this
 | x :: a,[],_,_,h=>by have:=(h x).1 mCs;cases this
 | x :: a,y :: b,ha,hb,h=>by
  have ha':=List.pairwise_cons.1 ha
  have hb':=List.pairwise_cons.1 hb
  have e:x=y:=by
   rcases List.mem_cons.1 ((h x).1 mCs) with e | e
   ·exact e
   rcases List.mem_cons.1 ((h y).2 mCs) with e2 | e2
   ·exact e2.symm
   have h1:=hb'.1 x e
   have h2:=ha'.1 y e2
   have:=KOrd.tr _ _ _ h1 h2
   rw[KOrd.irr] at this;cases this
  subst e
  refine congrArg _ (Kvw ha'.2 hb'.2 fun z=>⟨fun hz=>?_,fun hz=>?_⟩)
  ·rcases List.mem_cons.1 ((h z).1 (mCo _ hz)) with e | e
   ·subst e;exact absurd rfl (Lai (ha'.1 z hz))
   exact e
  rcases List.mem_cons.1 ((h z).2 (mCo _ hz)) with e | e
  ·subst e;exact absurd rfl (Lai (hb'.1 z hz))
  exact e
theorem Kvx(z:Int)(o:Option Lfd):(∃ m,isC o=some m∧liveM z m=true) ↔ lvC z o=true:=by
 cases o with
 | none=>exact⟨fun ⟨m,h,_⟩=>(by cases h),fun h=>(by cases h)⟩
 | some c=>
  show(∃ m,(bif c.gone then none else some c.is)=some m∧liveM z m=true) ↔ (!c.gone&&c.is.Approved&&decide (z<c.is.Expires))=true
  cases c.gone with
  | true=>exact⟨fun ⟨m,h,_⟩=>(by cases h),fun h=>(by cases h)⟩
  | false=>exact⟨fun ⟨m,h,h2⟩=>(by cases h;exact h2),fun h=>⟨c.is,rfl,h⟩⟩
def Mom(d:Lex)(l:List Ley)(t:Int):Prop:=(∃ s∈l,t=s.At)∨∃ s∈l,∃ e∈(upA d l s.At).th,t=e.2.Expires∧e.2.Expires<345686400
section
variable{d:Lex}{l:List Ley}
abbrev story(d:Lex)(l:List Ley)(k:Str):List Lfd:=stK (runA (A0 d) l) k
theorem Kvy(hl:AllV l)(k:Str):∀ c∈story d l k,∃ s∈l,c.v_at=s.At:=by
 obtain⟨e,h1,h2⟩:=Kzi (A:=A0 d) (A0_inv d) hl k
 intro c hc
 unfold story at hc
 rw[h1] at hc
 rcases List.mem_append.1 hc with hc | hc
 ·cases hc
 exact h2 c hc
theorem Kvz(hl:AllV l){k:Str}{c:Lfd}(hc:c∈story d l k):0≤c.v_at∧c.v_at≤345686400:=by
 obtain⟨s,hs,e⟩:=Kvy hl k c hc
 have:=(hl s hs).z
 omega
theorem Kwa(hl:AllV l)(hs:Srt l)(k:Str):(story d l k).Pairwise fun a b=>a.v_at≤b.v_at:=by
 obtain⟨z',h1,h2⟩:=Kzm (d:=d) hl hs 345686400
 rw[Kzl hl] at h2
 exact h2.so k
theorem Kwb(hl:AllV l)(hs:Srt l)(z:Int)(k:Str):k∈(lives (upA d l z) z).map (·.Node) ↔ lv (story d l k) z=true:=by
 have hF:Fit (upA d l z):=Kuz (Kvb hl)
 have e1:k∈(lives (upA d l z) z).map (·.Node) ↔ ∃ m,mGet (upA d l z).th k=some m∧liveM z m=true:=by
  constructor
  ·intro h
   obtain⟨m,hm,rfl⟩:=List.mem_map.1 h
   obtain⟨hm,hv⟩:=List.mem_filter.1 hm
   obtain⟨e,he,rfl⟩:=List.mem_map.1 hm
   exact⟨e.2,by rw[hF.node e he];exact hF.inv.sth.get he,hv⟩
  rintro⟨m,hm,hv⟩
  have he:=Lam hm
  exact List.mem_map.2 ⟨m,List.mem_filter.2 ⟨List.mem_map.2 ⟨_,he,rfl⟩,hv⟩,hF.node _ he⟩
 rw[e1]
 by_cases hz:0≤z
 ·rw[Kzo hl hs hz]
  exact Kvx z _
 have h0:l.filter (fun s=>decide (s.At≤z))=[]:=List.filter_eq_nil_iff.2 fun s hs=>by
  have:=(hl s hs).z
  simp;omega
 have h1:(story d l k).filter (fun c=>decide (c.v_at≤z))=[]:=List.filter_eq_nil_iff.2 fun c hc=>by
  have:=Kvz hl hc
  simp;omega
 unfold lv upA
 rw[h0,h1]
 exact⟨fun ⟨m,h,_⟩=>(by cases h),fun h=>(by cases h)⟩
theorem Kwc(hl:AllV l)(z:Int):((lives (upA d l z) z).map (·.Node)).Pairwise fun x y=>KLt.lt x y=true:=by
 have hF:Fit (upA d l z):=Kuz (Kvb hl)
 have h1:((upA d l z).th.map (·.2)).Pairwise fun a b=>KLt.lt (a.Node:Str) b.Node=true:=by
  rw[List.pairwise_map]
  refine List.Pairwise.imp_of_mem ?_ hF.inv.sth
  intro a b ha hb h
  rw[hF.node a ha,hF.node b hb];exact h
 rw[List.pairwise_map]
 exact h1.filter _
theorem Kwd(hl:AllV l)(hs:Srt l)(y z:Int):(lives (upA d l y) y).map (·.Node)=(lives (upA d l z) z).map (·.Node) ↔ ∀ k,lv (story d l k) y=lv (story d l k) z:=by
 constructor
 ·intro h k
  have h1:=Kwb (d:=d) hl hs y k
  have h2:=Kwb (d:=d) hl hs z k
  rw[h] at h1
  rw[Bool.eq_iff_iff,←h1,←h2]
 intro h
 refine Kvw (Kwc hl y) (Kwc hl z) fun k=>?_
 rw[Kwb hl hs,Kwb hl hs,h]
theorem Kwe(hl:AllV l)(hs:Srt l){k:Str}{t:Int}(ht:t<345686400)(h:lv (story d l k) t≠lv (story d l k) (t - 1)):Mom d l t:=by
 by_cases hm:∃ c∈story d l k,c.v_at=t
 ·obtain⟨c,hc,e⟩:=hm
  obtain⟨s,hs',e'⟩:=Kvy hl k c hc
  exact .inl ⟨s,hs',by omega⟩
 have hf:(story d l k).filter (fun c=>decide (c.v_at≤t))=(story d l k).filter fun c=>decide (c.v_at≤t - 1):=List.filter_congr fun c hc=>by
  have:¬ c.v_at=t:=fun e=>hm ⟨c,hc,e⟩
  rw[Bool.eq_iff_iff,decide_eq_true_eq,decide_eq_true_eq];omega
 unfold lv at h
 rw[hf] at h
 cases ho:((story d l k).filter fun c=>decide (c.v_at≤t - 1)).getLast? with
 | none=>rw[ho] at h;exact absurd rfl h
 | some c=>
  rw[ho] at h
  have hcm:=List.mem_of_getLast? ho
  obtain⟨hc,hct⟩:=List.mem_filter.1 hcm
  have hct:=of_decide_eq_true hct
  have hg:c.gone=false:=by
   cases hg:c.gone with
   | false=>rfl
   | true=>
    have h:(!c.gone&&c.is.Approved&&decide (t<c.is.Expires))≠(!c.gone&&c.is.Approved&&decide (t - 1<c.is.Expires)):=h
    rw[hg] at h
    exact absurd rfl h
  have he:c.is.Expires=t:=by
   refine Classical.byContradiction fun hne=>h ?_
   show(!c.gone&&c.is.Approved&&decide (t<c.is.Expires))=(!c.gone&&c.is.Approved&&decide (t - 1<c.is.Expires))
   have:decide (t<c.is.Expires)=decide (t - 1<c.is.Expires):=by
    rw[Bool.eq_iff_iff,decide_eq_true_eq,decide_eq_true_eq];omega
   rw[this]
  obtain⟨s,hs',e'⟩:=Kvy hl k c hc
  have hz:=Kvz hl hc
  have hat:mGet (upA d l s.At).th k=some c.is:=by
   rw[Kzo hl hs (by omega),←e']
   have hff:(story d l k).filter (fun x=>decide (x.v_at≤c.v_at))=((story d l k).filter fun x=>decide (x.v_at≤t - 1)).filter fun x=>decide (x.v_at≤c.v_at):=by
    rw[List.filter_filter]
    refine List.filter_congr fun x hx=>?_
    rw[Bool.eq_iff_iff,Bool.and_eq_true,decide_eq_true_eq,decide_eq_true_eq];omega
   obtain⟨V,hV⟩:=List.getLast?_eq_some_iff.1 ho
   show isC ((story d l k).filter (fun x=>decide (x.v_at≤c.v_at))).getLast?=_
   rw[hff,hV,List.filter_append,List.filter_cons]
   simp[isC,hg]
  exact .inr ⟨s,hs',(k,c.is),Lam hat,he.symm,by show c.is.Expires<_;omega⟩
theorem Kwf(hl:AllV l)(hs:Srt l)(k:Str){x y:Int}(hn:∀ t,x<t→t<y→¬ Mom d l t)(hy:y≤345686400):∀ (n:Nat) z,z=x+n→z<y→lv (story d l k) z=lv (story d l k) x
 | 0,z,e,_=>by rw[e];simp
 | n+1,z,e,h=>by
  rw[←Kwf hl hs k hn hy n (z - 1) (by omega) (by omega)]
  exact Classical.byContradiction fun hne=>hn z (by omega) h (Kwe hl hs (by omega) hne)
end
end Go.Gk
namespace Go.Gk
def NextP(P:Int→Prop)(q:Int×Bool):Prop:=(q.2=false∧q.1=345686400∧∀ t,¬ P t)∨(q.2=true∧P q.1∧∀ t,P t→q.1≤t)
theorem NextP.uniq{P:Int→Prop}{a b:Int×Bool}(h1:NextP P a)(h2:NextP P b):a=b:=by
 obtain⟨x,f⟩:=a
 obtain⟨y,g⟩:=b
 rcases h1 with⟨e1,e2,e3⟩ | ⟨e1,e2,e3⟩<;>rcases h2 with⟨e4,e5,e6⟩ | ⟨e4,e5,e6⟩
 ·simp only at *;rw[e1,e2,e4,e5]
 ·exact absurd e5 (e3 _)
 ·exact absurd e2 (e6 _)
 simp only at *
 have h1:=e3 _ e5
 have h2:=e6 _ e2
 rw[e1,e4,show x=y by omega]
theorem NextP.congr{P P':Int→Prop}{q:Int×Bool}(h:NextP P q)(hp:∀ t,P t ↔ P' t):NextP P' q:=by
 have:P=P':=funext fun t=>propext (hp t)
 rw[←this];exact h
theorem NextP.add{P:Int→Prop}{q:Int×Bool}(h:NextP P q)(hE:∀ t,P t→t<345686400)(z x:Int) :
  NextP (fun t=>P t∨(t=x∧z<x∧x<345686400)) (bif (decide (x>z)&&decide (x<q.1)) then(x,true) else q):=by
 cases hc:(decide (x>z)&&decide (x<q.1)) with
 | true=>
  simp only[Bool.and_eq_true,decide_eq_true_eq] at hc
  refine .inr ⟨rfl,?_,fun t ht=>?_⟩
  ·refine .inr ⟨rfl,hc.1,?_⟩
   rcases h with⟨_,e,_⟩ | ⟨_,e,_⟩
   ·rw[e] at hc;exact hc.2
   ·have:=hE _ e;show x<_;omega
  ·show x≤t
   rcases ht with ht | ht
   ·rcases h with⟨_,_,e⟩ | ⟨_,_,e⟩
    ·exact absurd ht (e t)
    ·have:=e t ht;omega
   ·omega
 | false=>
  have hc:¬ (z<x∧x<q.1):=by simpa using hc
  rcases h with⟨e1,e2,e3⟩ | ⟨e1,e2,e3⟩
  ·refine .inl ⟨e1,e2,fun t ht=>?_⟩
   rcases ht with ht | ⟨_,g1,g2⟩
   ·exact e3 t ht
   ·exact hc ⟨g1,by rw[e2];exact g2⟩
  ·refine .inr ⟨e1,.inl e2,fun t ht=>?_⟩
   rcases ht with ht | ⟨rfl,g1,g2⟩
   ·exact e3 t ht
   ·have:¬ t<q.1:=fun g=>hc ⟨g1,g⟩
    show q.1≤t
    omega
section
variable{d:Lex}{l:List Ley}
theorem Kyw(hl:AllV l)(k:Str){z:Int}(hz:z<0):lv (story d l k) z=false:=by
 unfold lv
 rw[List.filter_eq_nil_iff.2 fun c hc=>?_]
 ·rfl
 have:=Kvz hl hc
 simp;omega
theorem Kyx(hl:AllV l)(hs:Srt l)(k:Str):WinOk (wins (story d l k))∧(∀ w∈wins (story d l k),0≤w.1∧w.2≤345686400)∧∀ z,z<345686400→(inW (wins (story d l k)) z ↔ lv (story d l k) z=true):=by
 obtain⟨h1,h2,h3⟩:=Kzv (Kwa (d:=d) hl hs k) fun c hc=>(Kvz hl hc).2
 refine⟨h1,fun w hw=>⟨?_,h2 w hw⟩,h3⟩
 have hn:=h1.ne w hw
 have hle:=h2 w hw
 refine Classical.byContradiction fun hlt=>?_
 have:=(h3 w.1 (by omega)).1 ⟨w,hw,Int.le_refl _,hn⟩
 rw[Kyw hl k (by omega)] at this
 cases this
theorem Kyy(hl:AllV l)(hs:Srt l)(k:Str)(A B:Int)(cuts:List Int)(hc:(0 :: cuts).Pairwise (·≤·))(he:(0 :: cuts).getLast?=some 345686400)(hm:∀ t,0≤t→t<345686400→Mom d l t→t∈0 :: cuts) :
  sumC A B (lv (story d l k)) (0 :: cuts)=sumW A B (wins (story d l k)):=by
 obtain⟨h1,h2,h3⟩:=Kyx (d:=d) hl hs k
 rw[←Kym (E:=345686400) (q:=lv (story d l k)) (wins (story d l k)) 0 h1 (fun w hw=>(h2 w hw).1) (fun w hw=>(h2 w hw).2) (by decide) fun z _ hz=>h3 z hz]
 refine(Kyn cuts 0 345686400 hc he fun i x y hx hy z g1 g2=>?_).symm
 have hx0:0≤x:=by
  rcases List.mem_cons.1 (mOg hx) with h | h
  ·omega
  ·exact(List.pairwise_cons.1 hc).1 x h
 have hyE:y≤345686400:=by
  obtain⟨V,hV⟩:=List.getLast?_eq_some_iff.1 he
  have hym:=mOg hy
  rw[hV] at hym hc
  rcases List.mem_append.1 hym with h | h
  ·exact(List.pairwise_append.1 hc).2.2 y h _ (List.mem_singleton.2 rfl)
  ·rw[List.mem_singleton.1 h];exact Int.le_refl _
 refine Kwf hl hs k (fun t t1 t2 ht=>?_) hyE (z - x).toNat z (by omega) g2
 obtain⟨j,hj⟩:=List.getElem?_of_mem (hm t (by omega) (by omega) ht)
 by_cases h:j≤i
 ·have:t≤x:=by
   by_cases e:j=i
   ·subst e;rw[hx] at hj;cases hj;exact Int.le_refl _
   ·exact Lcz hc (show j<i by omega) hj hx
  omega
 ·have:y≤t:=by
   by_cases e:j=i+1
   ·subst e;rw[hy] at hj;cases hj;exact Int.le_refl _
   ·exact Lcz hc (show i+1<j by omega) hy hj
  omega
theorem Kyz(hl:AllV l)(hs:Srt l){t:Int}(ht:t<345686400):¬ ((lives (upA d l t) t).map (·.Node)=(lives (upA d l (t - 1)) (t - 1)).map (·.Node)) ↔ ∃ k,∃ w∈wins (story d l k),t=w.1∨t=w.2:=by
 rw[Kwd hl hs]
 have e:∀ k,(∃ w∈wins (story d l k),t=w.1∨t=w.2) ↔ ¬ lv (story d l k) t=lv (story d l k) (t - 1):=fun k=>by
  obtain⟨h1,h2,h3⟩:=Kyx (d:=d) hl hs k
  rw[Kyo h1,h3 t ht,h3 (t - 1) (by omega),←Bool.eq_iff_iff]
 constructor
 ·intro h
  obtain⟨k,hk⟩:=Classical.not_forall.1 h
  exact⟨k,(e k).2 hk⟩
 rintro⟨k,hk⟩ h
 exact(e k).1 hk (h k)
theorem Kza(hl:AllV l)(hs:Srt l){t:Int}(ht:t<345686400)(h:¬ ((lives (upA d l t) t).map (·.Node)=(lives (upA d l (t - 1)) (t - 1)).map (·.Node))):Mom d l t:=by
 rw[Kwd hl hs] at h
 obtain⟨k,hk⟩:=Classical.not_forall.1 h
 exact Kwe hl hs ht hk
end
end Go.Gk
namespace Go.Gk
theorem Kxk{s:Ley}(h:StepOk s)(h0:Lgr s=some 0):s.At<345686400:=by
 obtain⟨e,hf,he'⟩:=Lck h
 rw[he'] at h0
 cases h0
 unfold Lho at hf
 rw[show Lhe s.At=some (decide (s.At≥0)&&decide (s.At<345686400)) from rfl,bi_some] at hf
 cases hm:(decide (s.At≥0)&&decide (s.At<345686400)) with
 | false=>rw[hm] at hf;simp at hf
 | true=>
  simp only[Bool.and_eq_true,decide_eq_true_eq] at hm
  exact hm.2
abbrev wOf(w:Win):Lfa:=⟨w.1,w.2⟩
section
variable{n:Lfe}{al:BagT}{A:Ab}{c:Nat}{k:Str}
theorem Kxl(h:RN n al A c)(k:Str):(((mGet n.story k).getD (1,[])).2:List Lfd)=stK A k:=by
 unfold stK
 rw[←h.st,Kts]
 cases mGet n.story k<;>rfl
theorem Kxm(h:RN n al A c)(k:Str):(stK A k).length≤c:=by
 rw[←Kxl h]
 cases hm:mGet n.story k with
 | none=>exact Nat.zero_le _
 | some x=>exact(h.so.ok k x hm).2.1
theorem Kxn(L:List Lfd)(hlen:L.length≤1000) :
  rangeF (σ:=List Lfa) (fun i1 x3 s2=>bi (bif decide ((wi ((i1:Int)+1):Int)<(L.length:Int)) then(bi (getZ L (wi ((i1:Int)+1))) fun x15=>some x15.v_at) else(some 345686400)) fun q12=>bif (x3.gone||(!x3.is.Approved)) then(some s2) else(bif decide (((if x3.is.Expires<q12 then x3.is.Expires else q12):Int)≤x3.v_at) then(some s2) else(bi (bif decide ((wi ((s2.length:Int) - 1):Int)≥0) then(bi (getZ s2 (wi ((s2.length:Int) - 1))) fun x25=>some ((x25.To:Int)==x3.v_at)) else(some false)) fun q22=>bif q22 then(bi (getZ s2 (wi ((s2.length:Int) - 1))) fun x30=>some (s2.set ((wi ((s2.length:Int) - 1)).toNat) (⟨x30.From,(if x3.is.Expires<q12 then x3.is.Expires else q12)⟩:Lfa))) else(bi (apd s2 [(⟨x3.v_at,(if x3.is.Expires<q12 then x3.is.Expires else q12)⟩:Lfa)]) fun y34=>some y34)))) 0 L ([]:List Lfa)=some ((wins L).map wOf)∧(wins L).length≤L.length:=by
 have key:Ok (rangeF (σ:=List Lfa) (fun i1 x3 s2=>bi (bif decide ((wi ((i1:Int)+1):Int)<(L.length:Int)) then(bi (getZ L (wi ((i1:Int)+1))) fun x15=>some x15.v_at) else(some 345686400)) fun q12=>bif (x3.gone||(!x3.is.Approved)) then(some s2) else(bif decide (((if x3.is.Expires<q12 then x3.is.Expires else q12):Int)≤x3.v_at) then(some s2) else(bi (bif decide ((wi ((s2.length:Int) - 1):Int)≥0) then(bi (getZ s2 (wi ((s2.length:Int) - 1))) fun x25=>some ((x25.To:Int)==x3.v_at)) else(some false)) fun q22=>bif q22 then(bi (getZ s2 (wi ((s2.length:Int) - 1))) fun x30=>some (s2.set ((wi ((s2.length:Int) - 1)).toNat) (⟨x30.From,(if x3.is.Expires<q12 then x3.is.Expires else q12)⟩:Lfa))) else(bi (apd s2 [(⟨x3.v_at,(if x3.is.Expires<q12 then x3.is.Expires else q12)⟩:Lfa)]) fun y34=>some y34)))) 0 L ([]:List Lfa)) fun r=>r=(wins L).map wOf∧(wins L).length≤L.length:=by
  refine Ldn (Ldq (fun i (st:List Lfa)=>∃ W:List Win,st=W.map wOf∧winF L i (L.drop i) W=wins L∧W.length≤i) ⟨[],rfl,rfl,Nat.le_refl _⟩ fun i x st hx hI=>?_) fun st hst=>?_
  ·obtain⟨W,rfl,hW,hWl⟩:=hI
   have hi:i<L.length:=(gEs.1 hx).1
   have hd:L.drop i=x :: L.drop (i+1):=by rw[List.drop_eq_getElem_cons hi,(gEs.1 hx).2]
   rw[hd] at hW
   have hW:winF L (i+1) (L.drop (i+1)) (winS L i x W)=wins L:=hW
   have hwi:wi ((i:Int)+1)=((i+1:Nat):Int):=by rw[Lbf (by omega) (by omega)];omega
   refine Ldm (r:=toW L i) ?_ ?_
   ·rw[hwi]
    unfold toW
    by_cases h:i+1<L.length
    ·rw[dT (show((i+1:Nat):Int)<(L.length:Int) by omega)]
     have hg:L[i+1]?=some L[i+1]:=gGe h
     simp only[cond_true]
     rw[getZ_cast,hg];rfl
    ·rw[dF (show ¬ ((i+1:Nat):Int)<(L.length:Int) by omega),List.getElem?_eq_none (by omega)];rfl
   generalize hto:(if x.is.Expires<toW L i then x.is.Expires else toW L i)=to
   have hS:winS L i x W=bif x.gone||!x.is.Approved then W else bif decide (to≤x.v_at) then W else addW x.v_at to W:=by unfold winS;rw[hto]
   rw[hS] at hW
   cases hg:(x.gone||!x.is.Approved) with
   | true=>rw[hg] at hW;exact Ldk ⟨W,rfl,hW,by omega⟩
   | false=>
    rw[hg] at hW
    simp only[cond_false] at hW ⊢
    cases hq:decide (to≤x.v_at) with
    | true=>rw[hq] at hW;exact Ldk ⟨W,rfl,hW,by omega⟩
    | false=>
     rw[hq] at hW
     simp only[cond_false] at hW ⊢
     have push:winF L (i+1) (L.drop (i+1)) (W++[(x.v_at,to)])=wins L→Ok (bi (apd (W.map wOf) [(⟨x.v_at,to⟩:Lfa)]) fun y34=>some y34) fun st=>∃ W:List Win,st=W.map wOf∧winF L (i+1) (L.drop (i+1)) W=wins L∧W.length≤i+1:=fun hp=>
      Ldv (by simp only[List.length_map,List.length_cons,List.length_nil];omega) (Ldk ⟨W++[(x.v_at,to)],by simp,hp,by simp;omega⟩)
     unfold addW at hW
     cases hgl:W.getLast? with
     | none=>
      have:W=[]:=List.getLast?_eq_none_iff.1 hgl
      subst this
      refine Ldm (r:=false) rfl ?_
      exact push hW
     | some w=>
      rw[hgl] at hW
      simp only at hW
      obtain⟨V,rfl⟩:=List.getLast?_eq_some_iff.1 hgl
      have hln:wi ((((V++[w]).map wOf).length:Int) - 1)=((V.length:Nat):Int):=by
       rw[List.length_map,List.length_append,List.length_singleton] at *
       rw[Lbf (by omega) (by omega)];omega
      have hat:((V++[w]).map wOf)[V.length]?=some (wOf w):=by simp
      rw[hln]
      refine Ldm (r:=(w.2==x.v_at)) ?_ ?_
      ·rw[dT (show((V.length:Nat):Int)≥0 by omega)]
       simp only[cond_true]
       rw[getZ_cast,hat];rfl
      cases he:(w.2==x.v_at) with
      | true=>
       rw[he] at hW
       simp only[cond_true,List.dropLast_concat] at hW ⊢
       refine Ldm (r:=wOf w) (by rw[getZ_cast,hat]) (Ldk ⟨V++[(w.1,to)],?_,hW,by have:=hWl;simp only[List.length_append,List.length_cons,List.length_nil] at this ⊢;omega⟩)
       rw[Int.toNat_natCast]
       simp[List.set_append]
      | false=>
       rw[he] at hW
       simp only[cond_false] at hW ⊢
       exact push hW
  ·obtain⟨W,h1,h2,h3⟩:=hst
   rw[List.drop_length] at h2
   have h2:W=wins L:=h2
   subst h2
   exact⟨h1,h3⟩
 obtain⟨r,h1,h2,h3⟩:=key
 subst h2
 exact⟨h1,h3⟩
theorem Kxo(h:RN n al A c)(hc:c≤1000)(k:Str):Ljh n k=some ((wins (stK A k)).map wOf):=by
 unfold Ljh
 rw[Kxl h]
 rw[(Kxn (stK A k) (Nat.le_trans (Kxm h k) hc)).1]
 rfl
end
theorem Kxp{A B:Int}(W:List Win)(hA:0≤A∧A≤345686400)(hB:0≤B∧B≤345686400)(hw:∀ w∈W,0≤w.1∧w.1≤345686400∧0≤w.2∧w.2≤345686400)(hs:sumW A B W≤345686400) :
  rangeF (σ:=Int) (fun i17 x19 s18=>some (wi (s18+(if (wi ((if B<x19.To then B else x19.To) - (if A>x19.From then A else x19.From)))>0 then wi ((if B<x19.To then B else x19.To) - (if A>x19.From then A else x19.From)) else 0)))) 0 (W.map wOf) 0=some (sumW A B W):=by
 have key:Ok (rangeF (σ:=Int) (fun i17 x19 s18=>some (wi (s18+(if (wi ((if B<x19.To then B else x19.To) - (if A>x19.From then A else x19.From)))>0 then wi ((if B<x19.To then B else x19.To) - (if A>x19.From then A else x19.From)) else 0)))) 0 (W.map wOf) 0) fun r=>r=sumW A B W:=by
  refine Ldn (Ldq (fun i (st:Int)=>st=sumW A B (W.take i)) rfl fun i x st hx hI=>?_) fun st hst=>by rw[hst,List.length_map,List.take_length]
  rw[gMp] at hx
  obtain⟨w,hw',rfl⟩:=oMs.1 hx
  obtain⟨w1,w2,w3,w4⟩:=hw w (mOg hw')
  have hle:=Kyl A B W (i+1)
  rw[Ldh hw',Kyk] at hle
  have hnn:=Kyj A B (W.take i)
  have hov:=Kyg A B w.1 w.2
  refine Ldk ?_
  rw[Ldh hw',Kyk,hI]
  have e:(if (wi ((if B<w.2 then B else w.2) - (if A>w.1 then A else w.1)))>0 then wi ((if B<w.2 then B else w.2) - (if A>w.1 then A else w.1)) else 0)=ovW A B w.1 w.2:=by
   unfold ovW
   have e1:(if B<w.2 then B else w.2)=(if w.2<B then w.2 else B):=by split<;>split<;>omega
   have e2:(if A>w.1 then A else w.1)=(if w.1>A then w.1 else A):=by split<;>split<;>omega
   rw[e1,e2]
   rw[Lbf (by split<;>split<;>omega) (by split<;>split<;>omega)]
  show wi (sumW A B (W.take i)+(if (wi ((if B<w.2 then B else w.2) - (if A>w.1 then A else w.1)))>0 then wi ((if B<w.2 then B else w.2) - (if A>w.1 then A else w.1)) else 0))=_
  rw[e,Lbf (by omega) (by omega)]
 obtain⟨r,h,rfl⟩:=key
 exact h
end Go.Gk
namespace Go.Gk
def oneF(f:Int)(bz:Bool):Int:=if f≠0 then f else bif !bz then 1 else 0
theorem Kwo{f:Int}{bz:Bool}(h:oneF f bz=0):f=0:=by
 unfold oneF at h
 by_cases h0:f=0
 ·exact h0
 rw[if_pos h0] at h;exact absurd h h0
theorem Kwp:Ord (fun x y:Lfc=>decide (x.Expires<y.Expires)):=⟨fun a b h=>by simp only[decide_eq_true_eq,decide_eq_false_iff_not] at h ⊢;omega,fun a b c h1 h2=>by simp only[decide_eq_false_iff_not] at h1 h2 ⊢;omega⟩
theorem Kwq(x y:Lfc):∃ c,Ljb x y=some c∧decide (c<0)=decide (x.Expires<y.Expires):=by
 refine⟨cmpI x.Expires y.Expires,by unfold Ljb;rw[Lbr];rfl,?_⟩
 unfold cmpI
 rw[decide_eq_decide]
 split
 ·omega
 split<;>omega
theorem Kwr(x:List Lfc)(hl:x.length≤5):∃ m,Ljc 400 x 0 (x.length:Int)=some m∧m.length=x.length:=by
 cases x with
 | nil=>exact⟨[],rfl,rfl⟩
 | cons q C=>
  obtain⟨m,m1,m2,m3,m4⟩:=Kvj (cmp:=Ljb) Kwp Kwq (fun _=>rfl) (q :: C).length (by omega) 400 (by decide) (fun _=>rfl) 400 [q] C (List.pairwise_singleton _ _) rfl (by simp at hl;omega)
  refine⟨m,?_,m3⟩
  unfold Ljc
  have m1':=m1
  simp only[List.singleton_append,List.length_singleton] at m1'
  rw[show wi (0+1)=((1:Nat):Int) from rfl,m1']
  rfl
def sortE(x:List Lfc):List Lfc:=(Lje 400 x).getD []
theorem Kws(x:List Lfc)(h:x.length≤5):Lje 400 x=some (sortE x)∧(sortE x).length=x.length:=by
 obtain⟨r,h1,h2⟩:=Kwr x h
 have e:Lje 400 x=some r:=by
  unfold Lje Ljd
  refine Lci (r:=r) (Lci (r:=(x,(0:Int))) ?_ ?_) rfl
  ·refine Lef ?_
   rw[dF (show ¬ (20:Int)≤x.length by omega)]
   rfl
  simp only
  rw[h1,bi_some,dT h2,gd_true]
  refine Lci (r:=()) ?_ rfl
  refine Lef ?_
  rw[dF (show ¬ (20:Int)<x.length by omega)]
  rfl
 unfold sortE
 rw[e]
 exact⟨rfl,h2⟩
theorem Kwt(x:List Lfc):Lkq 400 x=Lje 400 x:=rfl
theorem Kwu(X:List Lfc)(hX:X.length≤5):Liw X=some (X.map (·.Node)):=by
 have key:Ok (Liw X) fun r=>r=X.map (·.Node):=by
  unfold Liw
  refine Ldl (Ldq (fun i (st:List Str)=>st=(X.take i).map (·.Node)) rfl fun i x st hx hI=>?_) fun st hst=>Ldk (by rw[hst,List.take_length])
  have hi:i<X.length:=(gEs.1 hx).1
  refine Ldv (by rw[hI];simp only[List.length_map,List.length_take,List.length_cons,List.length_nil];omega) (Ldk ?_)
  rw[Ldh hx,List.map_append,←hI];rfl
 obtain⟨r,h,rfl⟩:=key
 exact h
theorem Kwv(l:List Lfc)(z w:Int)(hl:l.length≤37):Lja 400 l z w=some (l.filter fun m=>!decide (m.Expires>wi (z+w))):=by
 have h1:∀ x∈l,Liy x z w=some (decide (x.Expires>wi (z+w))):=fun x _=>rfl
 have hix:Liz l z w=some (ixZ (fun x=>decide (x.Expires>wi (z+w))) l):=by
  unfold Liz
  rw[dT (show(l.length:Int)≤9223372036854775807 by omega),gd_true,Lcw (fun x:Lfc=>decide (x.Expires>wi (z+w))) l]
  intro j x hx
  simp only[getZ_cast,hx,bi_some,h1 x (List.mem_of_getElem? hx)]
  cases decide (x.Expires>wi (z+w))<;>rfl
 unfold Lja
 rw[hix]
 simp only[bi_some]
 exact Lcy (fun x:Lfc=>decide (x.Expires>wi (z+w))) (fun x=>Liy x z w) l 400 h1 (by omega) (by omega)
def soonL(A:Ab)(z w:Int):List Lfc:=(lives A z).filter fun m=>!decide (m.Expires>wi (z+w))
theorem Kww{A:Ab}(hF:Fit A)(z w:Int):(soonL A z w).length≤5:=Nat.le_trans (List.length_filter_le _ _) (Krg hF z)
section
variable{d:Lex}{l:List Ley}{z f w:Int}{bz bk:Bool}{al:BagT}{k:Str}
theorem Kwx(hf:Lhs 400 d l=some f)(hz:Lhe z=some bz)(h:oneF f bz≠0):Lio 400 d l z al=some (none,oneF f bz,al):=by
 unfold Lio
 rw[hf,bi_some]
 unfold oneF at h ⊢
 by_cases h0:f=0
 ·subst h0
  simp only[ne_eq,not_true,if_false,bne_self_eq_false,cond_false] at h ⊢
  rw[hz,bi_some]
  cases bz with
  | true=>simp at h
  | false=>rfl
 have hb:(f != 0)=true:=by simpa using h0
 rw[hb,cond_true,if_pos h0]
theorem Kwy(hf:Lhs 400 d l=some f)(hz:Lhe z=some bz)(h:oneF f bz=0)(hl:AllV l)(hlen:l.length≤999)(hb:BagOk al):∃ n al',Lio 400 d l z al=some (some n,0,al')∧RN n al' (upA d l z) l.length:=by
 have h0:=Kwo h
 unfold oneF at h
 subst h0
 cases bz with
 | false=>simp at h
 | true=>
  obtain⟨n,al',h1,h2⟩:=Ktk (d:=d) hl (by omega) z hb
  refine⟨n,al',?_,h2⟩
  unfold Lio
  rw[hf,bi_some]
  simp only[bne_self_eq_false,cond_false]
  rw[hz,bi_some]
  simp only[Bool.not_true,cond_false]
  rw[h1];rfl
theorem Kwz(hf:Lhs 400 d l=some f)(hz:Lhe z=some bz)(hl:f=0→AllV l)(hlen:l.length≤14)(hb:BagOk al) :
  ∃ a al',Lix 400 d l z al=some (a,oneF f bz,al')∧BagOk al'∧(oneF f bz=0→a=(lives (upA d l z) z).map (·.Node)):=by
 unfold Lix
 by_cases h:oneF f bz=0
 ·have hv:=hl (Kwo h)
  obtain⟨n,al',h1,h2⟩:=Kwy hf hz h hv (by omega) hb
  have hF:Fit (upA d l z):=Kuz (Kvb hv)
  rw[h1,bi_some]
  simp only[bne_self_eq_false,cond_false]
  rw[Krh h2 hF,bi_some,Kwu _ (Krg hF z),bi_some,h]
  exact⟨_,al',rfl,h2.bag,fun _=>rfl⟩
 ·rw[Kwx hf hz h,bi_some]
  have hb2:(oneF f bz != 0)=true:=by simpa using h
  simp only[hb2,cond_true]
  exact⟨[],al,rfl,hb,fun g=>absurd g h⟩
def endF(f w:Int)(bz:Bool):Int:=if oneF f bz≠0 then oneF f bz else bif (decide (w<0)||decide (w>345686400)) then 1 else 0
theorem Kxa(hf:Lhs 400 d l=some f)(hz:Lhe z=some bz)(hl:f=0→AllV l)(hlen:l.length≤14)(hb:BagOk al) :
  ∃ a al',Ljf 400 d l z w al=some (a,endF f w bz,al')∧BagOk al'∧(endF f w bz=0→a=(sortE (soonL (upA d l z) z w)).map (·.Node)):=by
 unfold Ljf endF
 by_cases h:oneF f bz=0
 ·have hv:=hl (Kwo h)
  obtain⟨n,al',h1,h2⟩:=Kwy hf hz h hv (by omega) hb
  have hF:Fit (upA d l z):=Kuz (Kvb hv)
  rw[h1,bi_some,if_neg (by simpa using h)]
  simp only[bne_self_eq_false,cond_false]
  rw[show Lhc w 0 345686400=some (decide (w<0)||decide (w>345686400)) from rfl,bi_some]
  cases hw:(decide (w<0)||decide (w>345686400)) with
  | true=>exact⟨[],al',rfl,h2.bag,fun g=>by simp at g⟩
  | false=>
   simp only[cond_false]
   rw[Krh h2 hF,bi_some,Kwv _ _ _ (by have:=Krg hF z;omega),bi_some]
   have hn:((lives (upA d l z) z).filter fun m=>!decide (m.Expires>wi (z+w))).length≤5:=Kww hF z w
   obtain⟨s1,s2⟩:=Kws ((lives (upA d l z) z).filter fun m=>!decide (m.Expires>wi (z+w))) hn
   rw[s1,bi_some,dT s2,gd_true,Kwu _ (by omega),bi_some]
   exact⟨_,al',rfl,h2.bag,fun _=>rfl⟩
 ·rw[Kwx hf hz h,bi_some,if_pos h]
  have hb2:(oneF f bz != 0)=true:=by simpa using h
  simp only[hb2,cond_true]
  exact⟨[],al,rfl,hb,fun g=>absurd g h⟩
theorem Kxb(hl:AllV l)(hlen:l.length≤14)(hs:Srt l)(hb:BagOk al):∃ al',Lkr 400 d l z w al=some ((sortE (soonL (upA d l z) z w)).map (·.Node),al')∧BagOk al':=by
 obtain⟨al',h1,h2⟩:=Kvg (d:=d) hl (by omega) hs z hb
 have hF:Fit (upA d l z):=Kuz (Kvb hl)
 refine⟨al',?_,h2⟩
 unfold Lkr
 rw[h1,bi_some]
 simp only
 have hn:=Kww hF z w
 have hth:=hF.thn
 have key:∀ X:List Lfc,X.length≤5→Ok (rangeF (σ:=List Lfc) (fun i3 x5 s4=>bif ((x5.Approved&&(decide ((z:Int)<x5.Expires)))&&(decide ((x5.Expires:Int)≤(wi (z+w))))) then(bi (apd s4 [x5]) fun y15=>some y15) else(some s4)) 0 X ([]:List Lfc)) fun r=>r=(X.filter (liveM z)).filter fun m=>!decide (m.Expires>wi (z+w)):=fun X hX=>by
  rw[List.filter_filter]
  refine Ldn (Ldq (fun i (st:List Lfc)=>st=(X.take i).filter fun m=>!decide (m.Expires>wi (z+w))&&liveM z m) rfl fun i m st hm hI=>?_) fun st hst=>by rw[hst,List.take_length]
  have hi:i<X.length:=(gEs.1 hm).1
  have hsl:st.length≤5:=by
   rw[hI]
   have:=List.length_filter_le (fun m=>!decide (m.Expires>wi (z+w))&&liveM z m) (X.take i)
   rw[List.length_take] at this
   omega
  rw[Ldh hm,List.filter_append,←hI]
  have e:((m.Approved&&(decide ((z:Int)<m.Expires)))&&(decide ((m.Expires:Int)≤(wi (z+w)))))=(!decide (m.Expires>wi (z+w))&&liveM z m):=by
   unfold liveM
   rw[Bool.and_comm]
   congr 1
   rw[Bool.eq_iff_iff];simp
  rw[e]
  refine Ldo (fun g=>Ldv (by simp only[List.length_cons,List.length_nil];omega) (Ldk ?_)) fun g=>Ldk ?_
  ·rw[List.filter_cons];simp only[g,if_true,List.filter_nil]
  rw[List.filter_cons];simp only[g,List.filter_nil];exact(List.append_nil st).symm
 obtain⟨r,h3,rfl⟩:=key ((upA d l z).th.map (·.2)) (by rw[List.length_map];omega)
 rw[h3,bi_some,Kwt]
 obtain⟨s1,s2⟩:=Kws (soonL (upA d l z) z w) hn
 have s1':Lje 400 ((((upA d l z).th.map (·.2)).filter (liveM z)).filter fun m=>!decide (m.Expires>wi (z+w)))=some (sortE (soonL (upA d l z) z w)):=s1
 have s2':(sortE (soonL (upA d l z) z w)).length=((((upA d l z).th.map (·.2)).filter (liveM z)).filter fun m=>!decide (m.Expires>wi (z+w))).length:=s2
 rw[s1',bi_some,dT s2',gd_true]
 have s3:(sortE (soonL (upA d l z) z w)).length≤5:=by omega
 generalize sortE (soonL (upA d l z) z w)=X at s3
 rw[dT (show(X.length:Int)≤9223372036854775807 by omega),gd_true]
 have key2:Ok (rangeG (σ:=List Str) (fun i22 s23=>bi (getZ X (i22:Int)) fun x34=>bi (apd s23 [x34.Node]) fun y37=>some y37) (X.length:Int) ([]:List Str)) fun r=>r=X.map (·.Node):=by
  refine Ldn (Ldr (fun i (st:List Str)=>st=(X.take i).map (·.Node)) rfl fun i st hi hI=>?_) fun st hst=>by rw[hst,Int.toNat_natCast,List.take_length]
  rw[Int.toNat_natCast] at hi
  have hx:X[i]?=some X[i]:=gGe hi
  refine Ldu (j:=i) rfl hx (Ldv (by rw[hI];simp only[List.length_map,List.length_take,List.length_cons,List.length_nil];omega) (Ldk ?_))
  rw[Ldh hx,List.map_append,←hI];rfl
 obtain⟨r,h4,rfl⟩:=key2
 rw[h4];rfl
def badW(w:Lfa):Bool:=(decide (w.From<0)||decide (w.From>w.To))||decide (w.To>345686400)
def timeF(f:Int)(bk bw:Bool):Int:=if f≠0 then f else bif !bk then 5 else bif bw then 1 else 0
theorem Kxc(hl:AllV l)(hs:Srt l)(k:Str)(A B:Int):sumW A B (wins (story d l k))≤345686400:=by
 obtain⟨h1,h2,h3⟩:=Kyx (d:=d) hl hs k
 rw[←Kym (E:=345686400) (q:=lv (story d l k)) (wins (story d l k)) 0 h1 (fun w hw=>(h2 w hw).1) (fun w hw=>(h2 w hw).2) (by decide) fun z _ hz=>h3 z hz]
 have:=Kyf (a:=0) (b:=345686400) (fun z=>lv (story d l k) z&&inAB A B z) (by decide)
 omega
theorem Kxd{w:Lfa}(hf:Lhs 400 d l=some f)(hk:Lha 400 k=some bk)(hl:f=0→AllV l∧Srt l)(hlen:l.length≤14)(hb:BagOk al) :
  ∃ t al',Ljj 400 d l k w al=some (t,timeF f bk (badW w),al')∧BagOk al'∧(timeF f bk (badW w)=0→t=sumW w.From w.To (wins (story d l k))):=by
 unfold Ljj timeF
 rw[hf,bi_some]
 by_cases h0:f=0
 ·subst h0
  simp only[bne_self_eq_false,cond_false,ne_eq,not_true,if_false]
  rw[hk,bi_some]
  cases bk with
  | false=>exact⟨0,al,rfl,hb,fun g=>by simp at g⟩
  | true=>
   simp only[Bool.not_true,cond_false]
   rw[show Lhc w.From 0 w.To=some (decide (w.From<0)||decide (w.From>w.To)) from rfl,bi_some]
   have eb:((decide (w.From<0)||decide (w.From>w.To))||decide ((w.To:Int)>345686400))=badW w:=rfl
   rw[eb]
   cases hw:badW w with
   | true=>exact⟨0,al,rfl,hb,fun g=>by simp at g⟩
   | false=>
    simp only[cond_false]
    obtain⟨hv,ho⟩:=hl rfl
    obtain⟨n,al',h1,h2⟩:=Ktk (d:=d) hv (by omega) 345686400 hb
    have h2:RN n al' (upA d l 345686400) l.length:=h2
    rw[Kzl hv] at h2
    have hwh:Ljg d l al=some (n,al'):=by unfold Ljg;rw[h1];rfl
    rw[hwh,bi_some]
    simp only
    rw[Kxo h2 (by omega) k,bi_some]
    unfold badW at hw
    simp only[Bool.or_eq_false_iff,decide_eq_false_iff_not] at hw
    obtain⟨g1,g2,g3⟩:=Kyx (d:=d) hv ho k
    rw[Kxp (A:=w.From) (B:=w.To) (wins (story d l k)) (by omega) (by omega) (fun x hx=>by have:=g2 x hx;have:=g1.ne x hx;omega) (Kxc hv ho k _ _),bi_some]
    exact⟨_,al',rfl,h2.bag,fun _=>rfl⟩
 ·have hb2:(f != 0)=true:=by simpa using h0
  rw[hb2,cond_true,if_pos h0]
  exact⟨0,al,rfl,hb,fun g=>absurd g h0⟩
end
end Go.Gk
namespace Go.Gk
def dd(s:List Int):Nat→List Int
 | 0=>[]
 | m+1=>if 0<m∧s[m]?=s[m - 1]? then dd s m else dd s m++(s[m]?).toList
theorem Kwg(s:List Int):∀ m,(dd s m).length≤m
 | 0=>Nat.le_refl _
 | m+1=>by
  have:=Kwg s m
  unfold dd
  split
  ·omega
  rw[List.length_append]
  have:(s[m]?).toList.length≤1:=by cases s[m]?<;>simp
  omega
theorem Kwh(s:List Int)(x:Int):∀ m,m≤s.length→(x∈dd s m ↔ x∈s.take m)
 | 0,_=>by simp[dd]
 | m+1,h=>by
  have ih:=Kwh s x m (by omega)
  have hm:=gGe (show m<s.length by omega)
  have e:dd s (m+1)=if 0<m∧s[m]?=s[m - 1]? then dd s m else dd s m++(s[m]?).toList:=rfl
  rw[List.take_add_one,List.mem_append,←ih,e]
  split
  ·rename_i hd
   refine⟨fun h=>.inl h,fun h=>h.elim id fun h=>?_⟩
   rw[hd.2] at h
   have h1:s[m - 1]?=some x:=by simpa using h
   rw[ih]
   refine mOg (i:=m - 1) ?_
   rw[List.getElem?_take_of_lt (by omega)]
   exact h1
  rw[List.mem_append]
theorem Kwi(s:List Int)(hs:s.Pairwise (·≤·)):∀ m,m≤s.length→(dd s m).Pairwise (· < ·)
 | 0,_=>List.Pairwise.nil
 | m+1,h=>by
  have ih:=Kwi s hs m (by omega)
  unfold dd
  split
  ·exact ih
  rename_i hd
  have hm:=gGe (show m<s.length by omega)
  rw[hm]
  refine List.pairwise_append.2 ⟨ih,List.pairwise_singleton ..,fun x hx y hy=>?_⟩
  simp only[Option.toList_some,List.mem_singleton] at hy
  subst hy
  have hx:=(Kwh s x m (by omega)).1 hx
  obtain⟨j,hj⟩:=List.getElem?_of_mem hx
  have hjm:j<m:=by have:=(gEs.1 hj).1;simp at this;omega
  rw[List.getElem?_take_of_lt hjm] at hj
  have hjl:j<s.length:=by omega
  have e1:s[j]=x:=by rw[gGe hjl] at hj;exact oSi hj
  have hpw:=List.pairwise_iff_getElem.1 hs
  have l1:s[j]≤s[m - 1]:=by
   by_cases e:j=m - 1
   ·subst e;exact Int.le_refl _
   exact hpw j (m - 1) _ (by omega) (by omega)
  have l2:s[m - 1]≤s[m]:=hpw (m - 1) m _ (by omega) (by omega)
  have hne:s[m]≠s[m - 1]:=fun e=>hd ⟨by omega,by rw[hm,gGe (by omega),e]⟩
  omega
theorem Kwj(k:Nat)(s:List Int)(hk:s.length+2≤k)(hl:s.length≤4294967296):Lki k s=some (dd s s.length):=by
 unfold Lki
 by_cases h2:s.length<2
 ·rw[dT (by omega)]
  simp only[cond_true]
  match s,h2 with
  | [],_=>rfl
  | [x],_=>rfl
 rw[dF (by omega)]
 simp only[cond_false]
 refine Kzx (I:=fun i:Int=>1≤i∧i≤s.length∧dd s i.toNat=s.take i.toNat) (μ:=fun i=>(s.length - i.toNat)) (Q:=fun r=>r=.inl ()∧dd s s.length=s∨r=.inr (dd s s.length)) ?_ ⟨by omega,by omega,?_⟩ (by simp;omega) ?_
 ·rintro i ⟨h1,hi,hd⟩
  by_cases hlt:i<s.length
  ·rw[dT hlt]
   simp only[cond_true]
   obtain⟨j,rfl⟩:=Int.eq_ofNat_of_zero_le (show 0≤i by omega)
   simp only[Int.toNat_natCast] at hd ⊢
   have hj:j<s.length:=by omega
   have w1:wi ((j:Int) - 1)=((j - 1:Nat):Int):=by rw[Lbf (by omega) (by omega)];omega
   have w2:wi ((j:Int)+1)=((j+1:Nat):Int):=by rw[Lbf (by omega) (by omega)];omega
   rw[Lad (gGe hj),w1,Lad (gGe (show j - 1<s.length by omega))]
   simp only[bi_some]
   have hds:dd s (j+1)=if s[j]=s[j - 1] then s.take j else s.take (j+1):=by
    rw[dd,gGe hj,gGe (show j - 1<s.length by omega),hd,List.take_add_one,gGe hj]
    simp[show 0<j by omega]
   by_cases he:s[j]=s[j - 1]
   ·rw[if_pos he] at hds
    have:((s[j]:Int)==s[j - 1])=true:=by simpa using he
    rw[this]
    simp only[cond_true]
    have hz:subZ s (j:Int) (s.length:Int)=some (s.drop j):=by
     have e:=Lac (l:=s) (i:=j) (j:=s.length) (by omega) (by omega)
     rw[e]
     simp
    rw[hz]
    simp only[bi_some]
    refine .inl ⟨.inr (dd s s.length),?_,.inr rfl⟩
    refine Kzx (I:=fun t:List Int×Int×Int=>t.1.length=s.length∧1≤t.2.2∧j+t.2.2≤s.length∧0≤t.2.1∧t.2.1≤j+t.2.2 - 1∧dd s (j+t.2.2.toNat)=t.1.take t.2.1.toNat∧∀ q,j+t.2.2.toNat - 1≤q→t.1[q]?=s[q]?)
     (μ:=fun t=>s.length - (j+t.2.2.toNat)) (Q:=fun r=>r.1.length=s.length∧0≤r.2∧r.2≤s.length∧dd s s.length=r.1.take r.2.toNat) ?_ ⟨rfl,by simp,by simp;omega,by simp,by simp,by simpa using hds,fun _ _=>rfl⟩ (by simp;omega) ?_
    ·rintro⟨cur,w,q⟩ ⟨i1,i2,i3,i4,i5,i6,i7⟩
     simp only at i1 i2 i3 i4 i5 i6 i7 ⊢
     obtain⟨q,rfl⟩:=Int.eq_ofNat_of_zero_le (show 0≤q by omega)
     obtain⟨w,rfl⟩:=Int.eq_ofNat_of_zero_le i4
     simp only[Int.toNat_natCast] at *
     have hdl:(s.drop j).length=s.length - j:=by simp
     by_cases hq:(q:Int)<((s.drop j).length:Int)
     ·rw[dT hq]
      rw[hdl] at hq
      simp only[cond_true]
      have v1:wi ((q:Int) - 1)=((q - 1:Nat):Int):=by rw[Lbf (by omega) (by omega)];omega
      have v2:wi ((q:Int)+1)=((q+1:Nat):Int):=by rw[Lbf (by omega) (by omega)];omega
      have v3:wi ((w:Int)+1)=((w+1:Nat):Int):=by rw[Lbf (by omega) (by omega)];omega
      have g1:(s.drop j)[q]?=some s[j+q]:=by rw[List.getElem?_drop,gGe (by omega)]
      have g2:(s.drop j)[q - 1]?=some s[j+q - 1]:=by rw[List.getElem?_drop,gGe (by omega)];congr 2;omega
      have g3:cur[j+q]?=some s[j+q]:=by rw[i7 _ (by omega),gGe (by omega)]
      have g4:cur[j+(q - 1)]?=some s[j+q - 1]:=by rw[i7 _ (by omega),gGe (by omega)];congr 2;omega
      have g5:∃ u,cur[w]?=some u:=⟨_,gGe (by omega)⟩
      obtain⟨u,g5⟩:=g5
      rw[Lad g1,v1]
      simp only[bi_some,Int.toNat_natCast]
      rw[Lad g3,Lad g2,Lad g4,Lad g5]
      simp only[bi_some]
      have hdq:dd s (j+(q+1))=if s[j+q]=s[j+q - 1] then dd s (j+q) else dd s (j+q)++[s[j+q]]:=by
       rw[←Nat.add_assoc,dd,gGe (show j+q<s.length by omega),gGe (show j+q - 1<s.length by omega)]
       simp[show 0<j+q by omega]
      by_cases hne:s[j+q]=s[j+q - 1]
      ·have e:((s[j+q]:Int) != s[j+q - 1])=false:=by simpa using hne
       rw[e,v2]
       rw[if_pos hne] at hdq
       refine .inr ⟨_,rfl,⟨i1,by simp;omega,by simp;omega,by simp,by simp;omega,by simpa [hdq] using i6,fun p hp=>i7 p (by simp at hp;omega)⟩,by simp;omega⟩
      have e:((s[j+q]:Int) != s[j+q - 1])=true:=by simpa using hne
      rw[e,v2,v3]
      rw[if_neg hne] at hdq
      refine .inr ⟨_,rfl,⟨by simpa using i1,by simp;omega,by simp;omega,by simp;omega,by simp;omega,?_,fun p hp=>?_⟩,by simp;omega⟩
      ·simp only[Int.toNat_natCast]
       rw[hdq,i6,List.take_add_one,gSs (by omega),List.take_set_of_le (Nat.le_refl _)]
       rfl
      simp only[Int.toNat_natCast] at hp
      rw[gSn (by omega)]
      exact i7 p (by omega)
     rw[dF hq]
     rw[hdl] at hq
     refine .inl ⟨_,rfl,i1,by simp,by simp;omega,?_⟩
     simp only[Int.toNat_natCast]
     rw[←i6]
     congr 1
     omega
    rintro⟨cur,w⟩ ⟨r1,r2,r3,r4⟩
    simp only at r1 r2 r3 r4 ⊢
    obtain⟨w,rfl⟩:=Int.eq_ofNat_of_zero_le r2
    have e:=Lac (l:=cur) (i:=w) (j:=cur.length) (by omega) (by omega)
    rw[e]
    simp only[bi_some,Int.toNat_natCast] at r4 ⊢
    rw[r4]
   rw[if_neg he] at hds
   have:((s[j]:Int)==s[j - 1])=false:=by simpa using he
   rw[this,w2]
   exact .inr ⟨_,rfl,⟨by omega,by omega,by simpa using hds⟩,by simp;omega⟩
  rw[dF hlt]
  refine .inl ⟨_,rfl,.inl ⟨rfl,?_⟩⟩
  have:i.toNat=s.length:=by omega
  rw[this] at hd
  simpa using hd
 ·simp only[dd,Int.reduceToNat]
  simp[List.take_add_one]
 rintro r (⟨rfl,h⟩ | rfl)
 ·simp only[orI]
  rw[h]
 rfl
def rise(l:List Int):List Int:=dd (l.mergeSort fun x y=>decide (x≤y)) l.length
theorem Kwk(l:List Int):(l.mergeSort fun x y=>decide (x≤y)).Pairwise (·≤·):=by
 have:=List.pairwise_mergeSort (le:=fun x y:Int=>decide (x≤y)) (fun a b c h1 h2=>by simp only[decide_eq_true_eq] at *;omega) (fun a b=>by simp only[Bool.or_eq_true,decide_eq_true_eq];omega) l
 exact this.imp fun h=>by simpa using h
theorem Kwl(l:List Int):(rise l).Pairwise (· < ·):=Kwi _ (Kwk l) _ (by simp)
theorem Kwm(l:List Int)(x:Int):x∈rise l ↔ x∈l:=by
 unfold rise
 rw[Kwh _ _ _ (by simp)]
 have:(l.mergeSort fun x y=>decide (x≤y)).take l.length=l.mergeSort fun x y=>decide (x≤y):=List.take_of_length_le (by simp)
 rw[this,List.mem_mergeSort]
theorem Kwn(k:Nat)(l:List Int)(hk:l.length+2≤k)(hl:l.length≤4294967296):Krd l=some (l.mergeSort fun x y=>decide (x≤y))∧Lki k (l.mergeSort fun x y=>decide (x≤y))=some (rise l):=by
 refine⟨by unfold Krd;rw[Nat.ble_eq_true_of_le hl];rfl,?_⟩
 rw[Kwj k _ (by simpa using hk) (by simpa using hl)]
 unfold rise
 simp
end Go.Gk
namespace Go.Gk
theorem Kyp(a b:List Str):Lkl a b=some (decide (a=b)):=by
 have key:Ok (Lkl a b) fun r=>r=decide (a=b):=by
  unfold Lkl
  by_cases hl:a.length=b.length
  ·refine ok_f (by simp[hl]) ?_
   refine Ldl (Lds (fun i (_:Unit)=>∀ j:Nat,j<i→a[j]?=b[j]?) (fun q=>q=false∧a≠b) (fun j hj=>absurd hj (Nat.not_lt_zero _)) fun i x st hx hI=>?_) fun r hr=>?_
   ·have hi:i<a.length:=(gEs.1 hx).1
    have hy:b[i]?=some (b[i]'(by omega)):=gGe _
    refine Ldu (j:=i) rfl hy ?_
    cases hq:(x==b[i]'(by omega)) with
    | true=>
     refine ok_f rfl (Ldk fun j hj=>?_)
     by_cases h:j=i
     ·subst h;rw[hx,hy,beq_iff_eq.1 hq]
     exact hI j (by omega)
    | false=>
     refine ok_t rfl (Ldm rfl (Ldk ⟨rfl,fun e=>?_⟩))
     subst e
     rw[hx] at hy
     have hne:¬ x=a[i]:=by simpa using hq
     exact hne (oSi hy)
   cases r with
   | out q=>exact Ldk (by rw[hr.1,dF hr.2])
   | go s=>
    refine Ldk ?_
    have:a=b:=List.ext_getElem? fun j=>by
     by_cases h:j<a.length
     ·exact hr j h
     rw[List.getElem?_eq_none (by omega),List.getElem?_eq_none (by omega)]
    rw[dT this]
  have hne:¬ a=b:=fun e=>hl (by rw[e])
  refine ok_t ?_ (Ldk (by rw[dF hne]))
  rw[bne_iff_ne]
  intro e
  exact hl (by omega)
 obtain⟨r,h,rfl⟩:=key
 exact h
section
variable{d:Lex}{l:List Ley}{z f:Int}{bz bk:Bool}{al:BagT}{k:Str}
def MomS(d:Lex)(l S:List Ley)(t:Int):Prop:=(∃ s∈S,t=s.At)∨∃ s∈S,∃ e∈(upA d l s.At).th,t=e.2.Expires∧e.2.Expires<345686400
theorem Kyq(X:List Lfc)(hX:X.length≤5)(s0:List Int)(hs:s0.length≤1000) :
  Ok (rangeF (σ:=List Int) (fun i16 x18 s17=>bif decide ((x18.Expires:Int)<345686400) then(bi (apd s17 [x18.Expires]) fun y28=>some y28) else(some s17)) 0 X s0) fun r=>(∀ t,t∈r ↔ t∈s0∨∃ m∈X,t=m.Expires∧m.Expires<345686400)∧r.length≤s0.length+5:=by
 refine Ldn (Ldq (fun i (st:List Int)=>(∀ t,t∈st ↔ t∈s0∨∃ m∈X.take i,t=m.Expires∧m.Expires<345686400)∧st.length≤s0.length+i) ⟨fun t=>by simp,Nat.le_refl _⟩ fun i x st hx hI=>?_) fun st hst=>by rw[List.take_length] at hst;exact⟨hst.1,by omega⟩
 have hi:i<X.length:=(gEs.1 hx).1
 have ht:∀ t,(∃ m∈X.take (i+1),t=m.Expires∧m.Expires<345686400) ↔ (∃ m∈X.take i,t=m.Expires∧m.Expires<345686400)∨(t=x.Expires∧x.Expires<345686400):=fun t=>by
  rw[Ldh hx]
  constructor
  ·rintro⟨m,hm,h⟩
   rcases List.mem_append.1 hm with hm | hm
   ·exact .inl ⟨m,hm,h⟩
   ·rw[List.mem_singleton.1 hm] at h;exact .inr h
  ·rintro(⟨m,hm,h⟩ | h)
   ·exact⟨m,List.mem_append_left _ hm,h⟩
   ·exact⟨x,List.mem_append_right _ (List.mem_singleton.2 rfl),h⟩
 refine Ldo (fun g=>Ldv (by have:=hI.2;simp only[List.length_cons,List.length_nil];omega) (Ldk ⟨fun t=>?_,by have:=hI.2;simp only[List.length_append,List.length_cons,List.length_nil];omega⟩)) fun g=>Ldk ⟨fun t=>?_,by have:=hI.2;omega⟩
 ·rw[List.mem_append,List.mem_singleton,hI.1,ht,or_assoc]
  have g:=of_decide_eq_true g
  exact or_congr Iff.rfl (or_congr Iff.rfl ⟨fun h=>⟨h,g⟩,fun h=>h.1⟩)
 ·rw[hI.1,ht]
  have g:=of_decide_eq_false g
  exact or_congr Iff.rfl ⟨.inl,fun h=>h.elim id fun h=>absurd h.2 g⟩
theorem Kyr(hl:AllV l)(hlen:l.length≤14)(hs:Srt l)(hb:BagOk al):∃ M al',Lkj 400 d l al=some (rise M,al')∧BagOk al'∧M.length≤84∧∀ t,t∈M ↔ Mom d l t:=by
 have key:Ok (Lkj 400 d l al) fun r=>∃ M,r.1=rise M∧BagOk r.2∧M.length≤84∧∀ t,t∈M ↔ Mom d l t:=by
  unfold Lkj
  refine Ldl (Ldq (fun i (st:BagT×List Int)=>BagOk st.1∧st.2.length≤6 * i∧∀ t,t∈st.2 ↔ MomS d l (l.take i) t) ⟨hb,Nat.zero_le _,fun t=>⟨fun h=>(by cases h),fun h=>h.elim (fun ⟨s,hs,_⟩=>(by cases hs)) fun ⟨s,hs,_⟩=>(by cases hs)⟩⟩ fun i x st hx hI=>?_) fun st hst=>?_
  ·have hi:i<l.length:=(gEs.1 hx).1
   obtain⟨i1,i2,i3⟩:=hI
   refine Ldv (by simp only[List.length_cons,List.length_nil];omega) ?_
   obtain⟨al',h1,h2⟩:=Kvg (d:=d) hl (by omega) hs x.At i1
   have hF:Fit (upA d l x.At):=Kuz (Kvb hl)
   refine Ldm h1 ?_
   refine Ldl (Kyq _ (by rw[List.length_map];exact hF.thn) _ (by simp only[List.length_append,List.length_cons,List.length_nil];omega)) fun r hr=>Ldk ⟨h2,?_,fun t=>?_⟩
   ·have:=hr.2
    simp only[List.length_append,List.length_cons,List.length_nil] at this
    show r.length≤_
    omega
   show t∈r ↔ _
   rw[hr.1,List.mem_append,List.mem_singleton,i3]
   unfold MomS
   rw[Ldh hx]
   constructor
   ·rintro(((⟨s,hs,h⟩ | ⟨s,hs,h⟩) | h) | ⟨m,hm,h⟩)
    ·exact .inl ⟨s,List.mem_append_left _ hs,h⟩
    ·exact .inr ⟨s,List.mem_append_left _ hs,h⟩
    ·exact .inl ⟨x,List.mem_append_right _ (List.mem_singleton.2 rfl),h⟩
    obtain⟨e,he,rfl⟩:=List.mem_map.1 hm
    exact .inr ⟨x,List.mem_append_right _ (List.mem_singleton.2 rfl),e,he,h⟩
   rintro(⟨s,hs,h⟩ | ⟨s,hs,e,he,h⟩)
   ·rcases List.mem_append.1 hs with hs | hs
    ·exact .inl (.inl (.inl ⟨s,hs,h⟩))
    rw[List.mem_singleton.1 hs] at h;exact .inl (.inr h)
   rcases List.mem_append.1 hs with hs | hs
   ·exact .inl (.inl (.inr ⟨s,hs,e,he,h⟩))
   rw[List.mem_singleton.1 hs] at he;exact .inr ⟨e.2,List.mem_map.2 ⟨e,he,rfl⟩,h⟩
  obtain⟨i1,i2,i3⟩:=hst
  rw[List.take_length] at i3
  obtain⟨r1,r2⟩:=Kwn 400 st.2 (by omega) (by omega)
  refine Ldm r1 (Ldp (dT (List.length_mergeSort _)) (Ldm r2 (Ldk ⟨st.2,rfl,i1,by omega,i3⟩)))
 obtain⟨⟨r,al'⟩,h1,M,h2,h3,h4,h5⟩:=key
 subst h2
 exact⟨M,al',h1,h3,h4,h5⟩
def Chg(d:Lex)(l:List Ley)(t:Int):Prop:=¬ ((lives (upA d l t) t).map (·.Node)=(lives (upA d l (t - 1)) (t - 1)).map (·.Node))
abbrev NxP(d:Lex)(l:List Ley)(z t:Int):Prop:=z<t∧t<345686400∧Chg d l t
theorem Kys(hl:AllV l)(hZ:∀ s∈l,s.At<345686400){t:Int}(h:Mom d l t):t<345686400:=by
 rcases h with⟨s,hs,rfl⟩ | ⟨s,hs,e,he,rfl,h⟩
 ·exact hZ s hs
 exact h
def nxQ(t:Int)(is:Bool):Int×Bool:=(if is then t else 345686400,is)
theorem Kyt(hl:AllV l)(hlen:l.length≤14)(hs:Srt l)(hZ:∀ s∈l,s.At<345686400)(hz : -1000000<z)(hb:BagOk al):∃ t is al',Lkm 400 d l z al=some (t,is,al')∧BagOk al'∧NextP (NxP d l z) (nxQ t is)∧(is=false→t=0):=by
 have key:Ok (Lkm 400 d l z al) fun r=>BagOk r.2.2∧NextP (NxP d l z) (nxQ r.1 r.2.1)∧(r.2.1=false→r.1=0):=by
  unfold Lkm
  obtain⟨M,al',h1,h2,h3,h4⟩:=Kyr (d:=d) hl hlen hs hb
  refine Ldm h1 ?_
  have hmem:∀ t,NxP d l z t→t∈rise M:=fun t ht=>(Kwm M t).2 ((h4 t).2 (Kza hl hs ht.2.1 ht.2.2))
  have hso:=Kwl M
  refine Ldl (Lds (fun i (st:BagT)=>BagOk st∧∀ (j:Nat) x,j<i→(rise M)[j]?=some x→¬ NxP d l z x) (fun r:Int×Bool×BagT=>BagOk r.2.2∧r.2.1=true∧NextP (NxP d l z) (r.1,true)) ⟨h2,fun j x hj=>absurd hj (Nat.not_lt_zero _)⟩ fun i x st hx hI=>?_) fun r hr=>?_
  ·obtain⟨i1,i2⟩:=hI
   have hxm:=(h4 x).1 ((Kwm M x).1 (mOg hx))
   have hxE:=Kys hl hZ hxm
   have more:∀ st':BagT,BagOk st'→¬ NxP d l z x→BagOk st'∧∀ (j:Nat) y,j<i+1→(rise M)[j]?=some y→¬ NxP d l z y:=fun st' hb' hn=>⟨hb',fun j y hj hy=>by
    by_cases h:j=i
    ·subst h;rw[hx] at hy;cases hy;exact hn
    exact i2 j y (by omega) hy⟩
   refine Ldl (P:=fun q:BagT×Bool=>BagOk q.1∧(q.2=true ↔ NxP d l z x)) (Ldo (fun g=>?_) fun g=>Ldk ⟨i1,fun h=>(by cases h),fun h=>absurd h.1 (of_decide_eq_false g)⟩) fun q hq=>?_
   ·have g:=of_decide_eq_true g
    obtain⟨al1,a1,b1⟩:=Kri (d:=d) (z:=x) hl (by omega) hs i1
    obtain⟨al2,a2,b2⟩:=Kri (d:=d) (z:=x - 1) hl (by omega) hs b1
    refine Ldm a1 ?_
    simp only
    rw[Lbf (by omega) (by omega)]
    refine Ldm a2 (Ldm (Kyp _ _) (Ldk ⟨b2,?_⟩))
    simp only[Bool.not_eq_true',decide_eq_false_iff_not]
    exact⟨fun h=>⟨g,hxE,h⟩,fun h=>h.2.2⟩
   refine Ldo (fun g=>Ldm rfl (Ldk ⟨hq.1,rfl,.inr ⟨rfl,hq.2.1 g,fun t ht=>?_⟩⟩)) fun g=>Ldk (more q.1 hq.1 fun h=>by rw[hq.2.2 h] at g;cases g)
   show x≤t
   obtain⟨j,hj⟩:=List.getElem?_of_mem (hmem t ht)
   by_cases h:j<i
   ·exact absurd ht (i2 j t h hj)
   by_cases e:j=i
   ·subst e;rw[hx] at hj;cases hj;exact Int.le_refl _
   have:=Lcz hso (show i<j by omega) hx hj
   omega
  cases r with
  | out q=>
   obtain⟨q1,q2,q3⟩:=hr
   refine Ldk ⟨q1,?_,fun h=>by rw[q2] at h;cases h⟩
   rw[q2];exact q3
  | go st=>
   refine Ldk ⟨hr.1,.inl ⟨rfl,rfl,fun t ht=>?_⟩,fun _=>rfl⟩
   obtain⟨j,hj⟩:=List.getElem?_of_mem (hmem t ht)
   exact hr.2 j t (gEs.1 hj).1 hj ht
 obtain⟨⟨t,is,al'⟩,h1,h2,h3,h4⟩:=key
 exact⟨t,is,al',h1,h2,h3,h4⟩
theorem Kyu(a b z:Int)(q:Int×Bool):loopM (σ:=Int×Bool×Int) (ρ:=Int×Bool) (fun s44=>bif decide ((s44.2.2:Int)<2) then(bi (getZ ([a,b]:List Int) s44.2.2) fun x54=>bif ((decide ((x54:Int)>z))&&(decide ((x54:Int)<s44.1))) then(some (.go (x54,true,wi (s44.2.2+1)))) else(some (.go (s44.1,s44.2.1,wi (s44.2.2+1))))) else(some (.out (s44.1,s44.2.1)))) 400 (q.1,q.2,0)=some (bif (decide (b>z)&&decide (b<(bif (decide (a>z)&&decide (a<q.1)) then(a,true) else q).1)) then(b,true) else(bif (decide (a>z)&&decide (a<q.1)) then(a,true) else q)):=by
 have e0:getZ ([a,b]:List Int) 0=some a:=rfl
 have e1:getZ ([a,b]:List Int) (wi (0+1))=some b:=rfl
 show loopM _ (397+1+1+1) _=_
 simp only[loopM]
 simp only[e0,bi_some,show decide ((0:Int)<2)=true from rfl,cond_true]
 cases (decide (a>z)&&decide (a<q.1)) with
 | true=>
  simp only[cond_true,e1,bi_some,show decide ((wi (0+1):Int)<2)=true from rfl]
  cases (decide (b>z)&&decide (b<a))<;>rfl
 | false=>
  simp only[cond_false,e1,bi_some,show decide ((wi (0+1):Int)<2)=true from rfl]
  cases hq:(decide (b>z)&&decide (b<q.1))<;>rfl
theorem Kyv(hf:Lhs 400 d l=some f)(hz:Lhe z=some bz)(hl:f=0→AllV l∧Srt l)(hlen:l.length≤14)(hb:BagOk al) :
  ∃ t is al',Lji 400 d l z al=some (t,is,oneF f bz,al')∧BagOk al'∧(oneF f bz=0→NextP (NxP d l z) (nxQ t is)∧(is=false→t=0)):=by
 unfold Lji oneF
 rw[hf,bi_some]
 by_cases h0:f=0
 ·subst h0
  simp only[bne_self_eq_false,cond_false,ne_eq,not_true,if_false]
  rw[hz,bi_some]
  cases bz with
  | false=>exact⟨0,false,al,rfl,hb,fun g=>by simp at g⟩
  | true=>
   simp only[Bool.not_true,cond_false]
   obtain⟨hv,ho⟩:=hl rfl
   obtain⟨n,al',h1,h2⟩:=Ktk (d:=d) hv (by omega) 345686400 hb
   have h2:RN n al' (upA d l 345686400) l.length:=h2
   rw[Kzl hv] at h2
   have hwh:Ljg d l al=some (n,al'):=by unfold Ljg;rw[h1];rfl
   rw[hwh,bi_some]
   simp only
   have win:∀ (W:List Win) (P:Int→Prop) (q:Int×Bool),(∀ t,P t→t<345686400)→NextP P q→∃ q',(rangeF (σ:=Int×Bool) (fun i32 x34 s33=>bi (loopM (σ:=Int×Bool×Int) (ρ:=Int×Bool) (fun s44=>bif decide ((s44.2.2:Int)<2) then(bi (getZ ([x34.From,x34.To]:List Int) s44.2.2) fun x54=>bif ((decide ((x54:Int)>z))&&(decide ((x54:Int)<s44.1))) then(some (.go (x54,true,wi (s44.2.2+1)))) else(some (.go (s44.1,s44.2.1,wi (s44.2.2+1))))) else(some (.out (s44.1,s44.2.1)))) 400 (s33.1,s33.2,0)) fun q46=>some (q46.1,q46.2)) 0 (W.map wOf) q)=some q'∧NextP (fun t=>P t∨((∃ w∈W,t=w.1∨t=w.2)∧z<t∧t<345686400)) q':=fun W P q hP hq=>by
    have key:Ok (rangeF (σ:=Int×Bool) (fun i32 x34 s33=>bi (loopM (σ:=Int×Bool×Int) (ρ:=Int×Bool) (fun s44=>bif decide ((s44.2.2:Int)<2) then(bi (getZ ([x34.From,x34.To]:List Int) s44.2.2) fun x54=>bif ((decide ((x54:Int)>z))&&(decide ((x54:Int)<s44.1))) then(some (.go (x54,true,wi (s44.2.2+1)))) else(some (.go (s44.1,s44.2.1,wi (s44.2.2+1))))) else(some (.out (s44.1,s44.2.1)))) 400 (s33.1,s33.2,0)) fun q46=>some (q46.1,q46.2)) 0 (W.map wOf) q) fun q'=>NextP (fun t=>P t∨((∃ w∈W,t=w.1∨t=w.2)∧z<t∧t<345686400)) q':=by
     refine Ldn (Ldq (fun i (st:Int×Bool)=>NextP (fun t=>P t∨((∃ w∈W.take i,t=w.1∨t=w.2)∧z<t∧t<345686400)) st) (hq.congr fun t=>⟨.inl,fun h=>h.elim id fun ⟨⟨w,hw,_⟩,_⟩=>(by cases hw)⟩) fun i x st hx hI=>?_) fun st hst=>by rw[List.length_map,List.take_length] at hst;exact hst
     rw[gMp] at hx
     obtain⟨w,hw,rfl⟩:=oMs.1 hx
     refine Ldm (Kyu w.1 w.2 z st) (Ldk ?_)
     have hE:∀ t,(P t∨((∃ w∈W.take i,t=w.1∨t=w.2)∧z<t∧t<345686400))→t<345686400:=fun t h=>h.elim (hP t) fun h=>h.2.2
     have n1:=hI.add hE z w.1
     have n2:=n1.add (fun t h=>h.elim (hE t) fun h=>by omega) z w.2
     refine n2.congr fun t=>?_
     rw[Ldh hw]
     constructor
     ·rintro(((h | ⟨⟨v,hv,e⟩,h⟩) | ⟨rfl,h⟩) | ⟨rfl,h⟩)
      ·exact .inl h
      ·exact .inr ⟨⟨v,List.mem_append_left _ hv,e⟩,h⟩
      ·exact .inr ⟨⟨w,List.mem_append_right _ (List.mem_singleton.2 rfl),.inl rfl⟩,h⟩
      ·exact .inr ⟨⟨w,List.mem_append_right _ (List.mem_singleton.2 rfl),.inr rfl⟩,h⟩
     ·rintro(h | ⟨⟨v,hv,e⟩,h⟩)
      ·exact .inl (.inl (.inl h))
      ·rcases List.mem_append.1 hv with hv | hv
       ·exact .inl (.inl (.inr ⟨⟨v,hv,e⟩,h⟩))
       ·rw[List.mem_singleton.1 hv] at e
        rcases e with rfl | rfl
        ·exact .inl (.inr ⟨rfl,h⟩)
        ·exact .inr ⟨rfl,h⟩
    obtain⟨q',a,b⟩:=key
    exact⟨q',a,b⟩
   have hall:∃ q,NextP (NxP d l z) q∧rangeP (σ:=Int×Bool) (fun x18 s17=>bi (Ljh n x18.1) fun y30=>bi (rangeF (σ:=Int×Bool) (fun i32 x34 s33=>bi (loopM (σ:=Int×Bool×Int) (ρ:=Int×Bool) (fun s44=>bif decide ((s44.2.2:Int)<2) then(bi (getZ ([x34.From,x34.To]:List Int) s44.2.2) fun x54=>bif ((decide ((x54:Int)>z))&&(decide ((x54:Int)<s44.1))) then(some (.go (x54,true,wi (s44.2.2+1)))) else(some (.go (s44.1,s44.2.1,wi (s44.2.2+1))))) else(some (.out (s44.1,s44.2.1)))) 400 (s33.1,s33.2,0)) fun q46=>some (q46.1,q46.2)) 0 y30 (s17.1,s17.2)) fun q35=>some (q35.1,q35.2)) n.story (345686400,false)=some q:=by
    have hfin:∀ t,(∃ e∈n.story,∃ w∈wins (story d l e.1),t=w.1∨t=w.2)∧z<t∧t<345686400 ↔ NxP d l z t:=fun t=>by
     constructor
     ·rintro⟨⟨e,he,w,hw,h⟩,h1,h2⟩
      exact⟨h1,h2,(Kyz hv ho h2).2 ⟨e.1,w,hw,h⟩⟩
     ·rintro⟨h1,h2',h3⟩
      obtain⟨k,w,hw,h⟩:=(Kyz hv ho h2').1 h3
      refine⟨?_,h1,h2'⟩
      cases hm:mGet n.story k with
      | none=>
       have e:story d l k=[]:=by
        have:=Kxl h2 k
        rw[hm] at this
        exact this.symm
       rw[e] at hw
       cases hw
      | some x=>exact⟨(k,x),Lam hm,w,hw,h⟩
    have one:∀ (seen:List (Str×Tl Lfd)) (q:Int×Bool),NextP (fun t=>(∃ e∈seen,∃ w∈wins (story d l e.1),t=w.1∨t=w.2)∧z<t∧t<345686400) q→∀ x:Str×Tl Lfd,∃ q',(bi (Ljh n x.1) fun y30=>bi (rangeF (σ:=Int×Bool) (fun i32 x34 s33=>bi (loopM (σ:=Int×Bool×Int) (ρ:=Int×Bool) (fun s44=>bif decide ((s44.2.2:Int)<2) then(bi (getZ ([x34.From,x34.To]:List Int) s44.2.2) fun x54=>bif ((decide ((x54:Int)>z))&&(decide ((x54:Int)<s44.1))) then(some (.go (x54,true,wi (s44.2.2+1)))) else(some (.go (s44.1,s44.2.1,wi (s44.2.2+1))))) else(some (.out (s44.1,s44.2.1)))) 400 (s33.1,s33.2,0)) fun q46=>some (q46.1,q46.2)) 0 y30 (q.1,q.2)) fun q35=>some (q35.1,q35.2))=some q'∧NextP (fun t=>(∃ e∈seen++[x],∃ w∈wins (story d l e.1),t=w.1∨t=w.2)∧z<t∧t<345686400) q':=fun seen q hq x=>by
     obtain⟨q',a,b⟩:=win (wins (story d l x.1)) _ q (fun t h=>h.2.2) hq
     rw[Kxo h2 (by omega) x.1,bi_some,a]
     refine⟨q',rfl,b.congr fun t=>?_⟩
     constructor
     ·rintro(⟨⟨e,he,w,hw,h⟩,h1⟩ | ⟨⟨w,hw,h⟩,h1⟩)
      ·exact⟨⟨e,List.mem_append_left _ he,w,hw,h⟩,h1⟩
      ·exact⟨⟨x,List.mem_append_right _ (List.mem_singleton.2 rfl),w,hw,h⟩,h1⟩
     ·rintro⟨⟨e,he,w,hw,h⟩,h1⟩
      rcases List.mem_append.1 he with he | he
      ·exact .inl ⟨⟨e,he,w,hw,h⟩,h1⟩
      ·rw[List.mem_singleton.1 he] at hw;exact .inr ⟨⟨w,hw,h⟩,h1⟩
    have h00:NextP (fun t=>(∃ e∈([]:List (Str×Tl Lfd)),∃ w∈wins (story d l e.1),t=w.1∨t=w.2)∧z<t∧t<345686400) (345686400,false):=.inl ⟨rfl,rfl,fun t ⟨⟨e,he,_⟩,_⟩=>by cases he⟩
    obtain⟨q,hq⟩:∃ q,NextP (NxP d l z) q:=by
     have go:∀ (m seen:List (Str×Tl Lfd)) (q:Int×Bool),NextP (fun t=>(∃ e∈seen,∃ w∈wins (story d l e.1),t=w.1∨t=w.2)∧z<t∧t<345686400) q→∃ q',NextP (fun t=>(∃ e∈seen++m,∃ w∈wins (story d l e.1),t=w.1∨t=w.2)∧z<t∧t<345686400) q':=by
      intro m
      induction m with
      | nil=>intro seen q hq;exact⟨q,by simpa using hq⟩
      | cons x m ih=>
       intro seen q hq
       obtain⟨q',_,b⟩:=one seen q hq x
       obtain⟨q2,b2⟩:=ih (seen++[x]) q' b
       exact⟨q2,by simpa using b2⟩
     obtain⟨q,hq⟩:=go n.story [] _ h00
     exact⟨q,hq.congr hfin⟩
    refine⟨q,hq,Lar (fun seen q=>NextP (fun t=>(∃ e∈seen,∃ w∈wins (story d l e.1),t=w.1∨t=w.2)∧z<t∧t<345686400) q) h00 (fun seen x s _ hs=>one seen s hs x) fun seen s hp hs=>?_⟩
    refine NextP.uniq (hs.congr fun t=>?_) (hq.congr fun t=>(hfin t).symm)
    exact and_congr ⟨fun ⟨e,he,h⟩=>⟨e,hp.mem_iff.1 he,h⟩,fun ⟨e,he,h⟩=>⟨e,hp.mem_iff.2 he,h⟩⟩ Iff.rfl
   obtain⟨q,hq,hr⟩:=hall
   rw[hr,bi_some]
   obtain⟨t,is⟩:=q
   cases is with
   | true=>exact⟨t,true,al',rfl,h2.bag,fun _=>⟨hq,fun h=>by cases h⟩⟩
   | false=>
    refine⟨0,false,al',rfl,h2.bag,fun _=>⟨?_,fun _=>rfl⟩⟩
    rcases hq with⟨_,e,h⟩ | ⟨e,_⟩
    ·exact .inl ⟨rfl,rfl,h⟩
    ·cases e
 ·have hb2:(f != 0)=true:=by simpa using h0
  rw[hb2,cond_true,if_pos h0]
  exact⟨0,false,al,rfl,hb,fun g=>absurd g h0⟩
end
end Go.Gk
namespace Go.Gk
theorem Kxe{d:Lex}(h:DirOk d):Ok (Lgl d) fun e=>e=0→1≤d.Life∧d.Life≤345686400:=by
 unfold Lgl
 have h1:=h.ul;have h2:=h.ol
 refine Ldo (fun _=>Ldk fun g=>(by cases g)) fun _=>?_
 refine Ldl (Law h.us (by omega)) fun y _=>?_
 refine Ldo (fun g=>Ldk fun e=>(by rw[e] at g;cases g)) fun _=>?_
 refine Ldo (fun _=>Ldk fun g=>(by cases g)) fun _=>?_
 refine Ldl (P:=fun r:LS Unit Int=>match r with | .go _=>True | .out q=>q≠0) (Ldn (Lds (fun _ _=>True) (fun q=>q≠0) trivial fun i x s hx _=>?_) fun r hr=>?_) fun r hr=>?_
 ·obtain⟨hx1,hx2⟩:=h.ow x (mOg hx)
  obtain⟨b,_,hb⟩:=Lcl _ hx1
  refine Ldm hb ?_
  refine Ldo (fun _=>Ldk (show(5:Int)≠0 by decide)) fun _=>?_
  refine Ldl (Lav hx (by omega) fun y=>Ldk trivial) fun q _=>?_
  refine Ldo (fun _=>Ldk (show(7:Int)≠0 by decide)) fun _=>?_
  refine Ldl (P:=fun r:LS Unit (LS Unit Int)=>match r with | .go _=>True | .out (.go _)=>True | .out (.out q)=>q≠0) (Ldn (Lds (fun _ _=>True) (fun q=>match q with | .go _=>True | .out v=>v≠0) trivial fun i y s hy _=>?_) fun r hr=>?_) fun r hr=>?_
  ·rw[Las,bi_some]
   refine Ldo (fun _=>Ldk (show(8:Int)≠0 by decide)) fun _=>?_
   refine Ldl (Lav hy (by omega) fun y=>Ldk trivial) fun q _=>?_
   exact Ldo (fun _=>Ldk (show(7:Int)≠0 by decide)) fun _=>Ldk trivial
  ·cases r with
   | go s=>trivial
   | out q=>cases q with
    | go s=>trivial
    | out v=>exact hr
  cases r with
  | go s=>exact Ldk trivial
  | out q=>cases q with
   | go s=>exact Ldk trivial
   | out v=>exact Ldk hr
 ·cases r with
  | go s=>trivial
  | out q=>exact hr
 cases r with
 | out q=>exact Ldk fun g=>absurd g hr
 | go s=>
  simp only[goI]
  refine Ldm (show Lgk d.Life 1 345686400=some (decide (1≤d.Life)&&decide (d.Life≤345686400)) from rfl) ?_
  refine Ldo (fun _=>Ldk fun g=>(by cases g)) fun g=>Ldk fun _=>?_
  simpa using g
structure EI(A:Ab):Prop where
 li:1≤A.d.Life∧A.d.Life≤345686400
 ex:∀ k m,mGet A.th k=some m→0≤m.Expires
theorem Kxf{c:Bool}{x y:Int×Ab}(h1:EI x.2)(h2:EI y.2):EI (bif c then x else y).2:=by cases c;exact h2;exact h1
theorem Kxg{d:Lex}(h:1≤d.Life∧d.Life≤345686400){z:Int}(hz:0≤z∧z≤345686400)(u:Str):0≤lastA d z u:=by
 unfold lastA
 cases (u==[]) with
 | true=>exact show(0:Int)≤345686400 by decide
 | false=>
  simp only[cond_false]
  rw[Lbf (by omega) (by omega)]
  split<;>omega
section
variable{A:Ab}{s:Ley}
theorem EI.set{z:Int}(h:EI A){B:Ab}{m:Lfc}{key:Bool}{q:List (Str×List Lfk)}(hd:B.d=A.d)(ht:B.th=A.th)(hm:0≤m.Expires):EI { setA B z m key with hi:=q }:=⟨by show 1≤B.d.Life∧B.d.Life≤345686400;rw[hd];exact h.li,fun k x hx=>by
 have hx':mGet (mSet B.th m.Node m) k=some x:=hx
 rw[Laq,ht] at hx'
 split at hx'
 ·cases hx';exact hm
 exact h.ex k x hx'⟩
theorem Kxh(h:EI A)(hI:AInv A)(hv:StepV s):EI (stepA A s).2:=by
 have hz:0≤s.At∧s.At≤345686400:=⟨hv.z.1,hv.z.2⟩
 unfold stepA
 refine Kxf ?_ (Kxf h (Kxf ?_ (Kxf ?_ ?_)))
 ·unfold joinA
  have hB:∀ op:Option Lfg,EI (joinB A s op).2:=fun op=>by
   unfold joinB
   refine Kxf h (Kxf h (Kxf h ?_))
   unfold joinC
   cases op with
   | none=>exact h.set rfl rfl (Kxg h.li hz _)
   | some p=>exact h.set rfl rfl (Kxg h.li hz _)
  refine Kxf h (Kxf h ?_)
  split
  ·exact hB none
  exact Kxf h (hB _)
 ·unfold keyA
  split
  ·exact h
  exact Kxf h (Kxf h ⟨h.li,h.ex⟩)
 ·unfold revA
  split
  ·exact h
  exact Kxf h (Kxf h ⟨h.li,h.ex⟩)
 split
 ·exact h
 rename_i m hm
 refine Kxf h ?_
 unfold turnA
 have hme:=h.ex _ _ hm
 have tn:∀ {m':Lfc} {key:Bool},0≤m'.Expires→EI (setA A s.At m' key):=fun {m' key} hm'=>h.set (B:=A) (q:=A.hi) rfl rfl hm'
 refine Kxf (Kxf h (tn hme)) (Kxf (Kxf h (h.set rfl rfl (Kxg h.li hz _))) (Kxf (Kxf h (tn hme)) (Kxf (Kxf h (Kxf h (tn (show(0:Int)≤345686400 by decide)))) (Kxf (Kxf h (tn hz.1)) ?_))))
 refine⟨h.li,fun k x hx=>?_⟩
 have hx':mGet (mDel A.th s.Node) k=some x:=hx
 rw[Ksr hI.sth] at hx'
 split at hx'
 ·cases hx'
 exact h.ex k x hx'
end
theorem Kxi:∀ {l:List Ley} {A:Ab},EI A→AInv A→AllV l→EI (runA A l)
 | [],_,h,_,_=>h
 | x :: l,A,h,hI,hV=>Kxi (A:=(stepA A x).2) (Kxh h hI (hV x mCs)) (Ksg hI (hV x mCs)) fun s hs=>hV s (mCo _ hs)
theorem Kxj{d:Lex}{l:List Ley}(hd:1≤d.Life∧d.Life≤345686400)(hl:AllV l)(z:Int):EI (upA d l z):=
 Kxi ⟨hd,fun k m h=>(by cases h)⟩ (A0_inv d) (Kvb hl)
end Go.Gk
namespace Go.Gk
theorem Kxq(A B:Int)(q:Int→Bool)(a b:Int):∀ l:List Int,sumC A B q (l++[a,b])=sumC A B q (l++[a])+(if q a then ovW A B a b else 0)
 | []=>by simp[sumC]
 | [x]=>by
  show(if q x then ovW A B x a else 0)+((if q a then ovW A B a b else 0)+0)=(if q x then ovW A B x a else 0)+0+_
  omega
 | x :: y :: l=>by
  have:=Kxq A B q a b (y :: l)
  show(if q x then ovW A B x y else 0)+sumC A B q (y :: l++[a,b])=((if q x then ovW A B x y else 0)+sumC A B q (y :: l++[a]))+_
  omega
theorem Kxr(A B:Int)(q:Int→Bool){c:List Int}{i:Nat}{a b:Int}(ha:c[i]?=some a)(hb:c[i+1]?=some b):sumC A B q (c.take (i+2))=sumC A B q (c.take (i+1))+(if q a then ovW A B a b else 0):=by
 rw[Ldh hb,Ldh ha,List.append_assoc]
 exact Kxq A B q a b _
section
variable{d:Lex}{l:List Ley}{al:BagT}{k:Str}
theorem Kxs{w:Lfa}(hl:AllV l)(hlen:l.length≤14)(hs:Srt l)(hZ:∀ s∈l,s.At<345686400)(hw:badW w=false)(hd:1≤d.Life∧d.Life≤345686400)(hb:BagOk al):∃ al',Lks 400 d l k w al=some (sumW w.From w.To (wins (story d l k)),al'):=by
 have key:Ok (Lks 400 d l k w al) fun r=>r.1=sumW w.From w.To (wins (story d l k)):=by
  unfold badW at hw
  simp only[Bool.or_eq_false_iff,decide_eq_false_iff_not] at hw
  unfold Lks
  obtain⟨M,al',h1,h2,h3,h4⟩:=Kyr (d:=d) hl hlen hs hb
  have hM:(rise M).length≤84:=by
   have:=Kwg (M.mergeSort fun x y=>decide (x≤y)) M.length
   unfold rise;omega
  refine Ldm h1 (Ldv (by simp only[List.length_cons,List.length_nil];omega) ?_)
  have hlen2:(rise M++[0,345686400]).length=(rise M).length+2:=by simp
  refine Ldm (Kwn 400 (rise M++[0,345686400]) (by omega) (by omega)).1 (Ldp (dT (List.length_mergeSort _)) ?_)
  generalize hc:((rise M++[0,345686400]).mergeSort fun x y=>decide (x≤y))=c
  have hcl:c.length=(rise M).length+2:=by rw[←hc,List.length_mergeSort,hlen2]
  have hcs:c.Pairwise (·≤·):=by rw[←hc];exact Kwk _
  have hcm:∀ t,t∈c ↔ Mom d l t∨t=0∨t=345686400:=fun t=>by
   rw[←hc,List.mem_mergeSort,List.mem_append,Kwm,h4]
   simp
  have hmz:∀ t,Mom d l t→0≤t:=fun t ht=>by
   rcases ht with⟨s,hs',rfl⟩ | ⟨s,hs',e,he,rfl,hE⟩
   ·exact(hl s hs').z.1
   have hI:AInv (upA d l s.At):=Ktg (A0_inv d) (Kvb hl)
   exact(Kxj hd hl s.At).ex e.1 e.2 (hI.sth.get he)
  have hrange:∀ t∈c,0≤t∧t≤345686400:=fun t ht=>by
   rcases(hcm t).1 ht with h | rfl | rfl
   ·have:=Kys hl hZ h
    have:=hmz t h
    omega
   ·decide
   decide
  have hw1:wi ((c.length:Int) - 1)=((c.length - 1:Nat):Int):=by rw[Lbf (by omega) (by omega)];omega
  rw[hw1]
  rw[dT (show((c.length - 1:Nat):Int)≤9223372036854775807 by omega),gd_true]
  refine Ldl (Ldr (fun i (st:BagT×Int)=>BagOk st.1∧st.2=sumC w.From w.To (lv (story d l k)) (c.take (i+1))∧0≤st.2∧st.2≤i * 345686400) ⟨h2,?_,Int.le_refl _,by simp⟩ fun i st hi hI=>?_) fun st hst=>Ldk ?_
  ·cases c with
   | nil=>simp at hcl
   | cons x c=>rfl
  ·rw[Int.toNat_natCast] at hi
   obtain⟨i1,i2,i3,i4⟩:=hI
   have ha:c[i]?=some (c[i]'(by omega)):=gGe _
   have hb':c[i+1]?=some (c[i+1]'(by omega)):=gGe _
   generalize c[i]'(by omega)=a at ha
   generalize c[i+1]'(by omega)=b at hb'
   have ra:=hrange a (mOg ha)
   have rb:=hrange b (mOg hb')
   have hwi:wi ((i:Int)+1)=((i+1:Nat):Int):=by rw[Lbf (by omega) (by omega)];omega
   rw[hwi]
   refine Ldu (j:=i+1) rfl hb' (Ldu (j:=i) rfl ha ?_)
   have hst2:=Kxr w.From w.To (lv (story d l k)) ha hb'
   have hov:=Kyg w.From w.To a b
   have hov2:ovW w.From w.To a b≤345686400:=by unfold ovW;split<;>(try split)<;>(try split)<;>omega
   have e1:wi ((if w.To<b then w.To else b) - (if w.From>a then w.From else a))=(if b<w.To then b else w.To) - (if a>w.From then a else w.From):=by
    have e1:(if w.To<b then w.To else b)=(if b<w.To then b else w.To):=by split<;>split<;>omega
    have e2:(if w.From>a then w.From else a)=(if a>w.From then a else w.From):=by split<;>split<;>omega
    rw[e1,e2]
    rw[Lbf (by split<;>split<;>omega) (by split<;>split<;>omega)]
   rw[e1]
   have hovd:ovW w.From w.To a b=if 0<(if b<w.To then b else w.To) - (if a>w.From then a else w.From) then(if b<w.To then b else w.To) - (if a>w.From then a else w.From) else 0:=rfl
   generalize (if b<w.To then b else w.To) - (if a>w.From then a else w.From)=g at hovd
   refine Ldl (P:=fun q:BagT×Bool=>BagOk q.1∧(q.2=true→0<g∧lv (story d l k) a=true)∧(q.2=false→(if lv (story d l k) a=true then ovW w.From w.To a b else 0)=0)) (Ldo (fun hg=>?_) fun hg=>Ldk ⟨i1,fun h=>(by cases h),fun _=>?_⟩) fun q hq=>?_
   ·have hg:=of_decide_eq_true hg
    refine Ldu (j:=i) rfl ha ?_
    obtain⟨al1,a1,b1⟩:=Kri (d:=d) (z:=a) hl (by omega) hs i1
    refine Ldm a1 (Ldm (Las _ _) (Ldk ⟨b1,fun h=>⟨hg,?_⟩,fun h=>?_⟩))
    ·rw[List.any_eq_true] at h
     obtain⟨x,hx,e⟩:=h
     rw[←beq_iff_eq.1 e] at hx
     exact(Kwb hl hs a k).1 hx
    rw[List.any_eq_false] at h
    rw[if_neg fun hv=>?_]
    exact h k ((Kwb hl hs a k).2 hv) (beq_self_eq_true k)
   ·have hg:=of_decide_eq_false hg
    rw[hovd,if_neg (show ¬ 0<g from hg)]
    split<;>rfl
   have hmul:((i+1:Nat):Int) * 345686400=(i:Int) * 345686400+345686400:=by omega
   refine Ldo (fun g1=>Ldk ⟨hq.1,?_,?_,?_⟩) fun g1=>Ldk ⟨hq.1,?_,i3,?_⟩
   ·obtain⟨g2,g3⟩:=hq.2.1 g1
    show wi (st.2+g)=_
    rw[hst2,if_pos g3,hovd,if_pos g2,←i2,Lbf (by omega) (by omega)]
   ·obtain⟨g2,g3⟩:=hq.2.1 g1
    rw[hovd,if_pos g2] at hov2
    show 0≤wi (st.2+g)
    rw[Lbf (by omega) (by omega)];omega
   ·obtain⟨g2,g3⟩:=hq.2.1 g1
    rw[hovd,if_pos g2] at hov2
    show wi (st.2+g)≤_
    rw[Lbf (by omega) (by omega)];omega
   ·show st.2=_
    rw[hst2,hq.2.2 g1,←i2];omega
   show st.2≤_
   omega
  rw[Int.toNat_natCast] at hst
  have e:c.take (c.length - 1+1)=c:=List.take_of_length_le (by omega)
  rw[e] at hst
  show st.2=_
  rw[hst.2.1]
  obtain⟨x,cuts,rfl⟩:∃ x cuts,c=x :: cuts:=by
   cases c with
   | nil=>simp at hcl
   | cons x c=>exact⟨x,c,rfl⟩
  have hx0:x=0:=by
   have h0:(0:Int)∈x :: cuts:=(hcm 0).2 (.inr (.inl rfl))
   have:=(hrange x mCs).1
   rcases List.mem_cons.1 h0 with h | h
   ·exact h.symm
   have:=(List.pairwise_cons.1 hcs).1 0 h
   omega
  subst hx0
  refine Kyy hl hs k w.From w.To cuts hcs ?_ fun t _ _ ht=>(hcm t).2 (.inl ht)
  cases hg:(0 :: cuts).getLast? with
  | none=>rw[List.getLast?_eq_none_iff] at hg;cases hg
  | some e=>
   obtain⟨V,hV⟩:=List.getLast?_eq_some_iff.1 hg
   have h1:e≤345686400:=(hrange e (by rw[hV];exact List.mem_append_right _ (List.mem_singleton.2 rfl))).2
   have hE:(345686400:Int)∈0 :: cuts:=(hcm _).2 (.inr (.inr rfl))
   rw[hV] at hE hcs
   rcases List.mem_append.1 hE with h | h
   ·have:=(List.pairwise_append.1 hcs).2.2 _ h e (List.mem_singleton.2 rfl)
    rw[show e=345686400 by omega]
   rw[List.mem_singleton.1 h]
 obtain⟨⟨r,al'⟩,h,rfl⟩:=key
 exact⟨al',h⟩
end
end Go.Gk
namespace Go.Gk
theorem Kxt:∀ x∈([[110,97],[110,97],[110,98],[65]]:List Str),∃ b,Lha 400 x=some b∧Lgg x=some b:=by
 intro x hx
 simp only[List.mem_cons,List.not_mem_nil,or_false] at hx
 rcases hx with rfl | rfl | rfl | rfl
 ·exact⟨true,by rfl,by rfl⟩
 ·exact⟨true,by rfl,by rfl⟩
 ·exact⟨true,by rfl,by rfl⟩
 exact⟨false,by rfl,by rfl⟩
section
variable{l:List Int}{b:Int}{s:Lev}
theorem Kxu(h:At l 0 b s)(hl:Smal l)(hb:b<4611686018427380000):Ok (Lgz s) fun r=>True:=by
 unfold Lgz
 refine Ldl (Krm h _ hl (by omega) (by decide) (by decide)) fun y1 h1=>?_
 refine Ldl (Krm h1 _ hl (by omega) (by decide) (by decide)) fun y3 h3=>?_
 refine Ldl (Krk h3 20 hl (by omega) (by decide) (by decide)) fun y5 h5=>?_
 refine Ldl (P:=fun _=>True) (Ldo (fun _=>?_) fun _=>Ldk trivial) fun q _=>Ldk trivial
 refine Ldl (Krm h5 _ hl (by omega) (by decide) (by decide)) fun y10 h10=>?_
 exact Ldl (Krm h10 _ hl (by omega) (by decide) (by decide)) fun y12 h12=>Ldk trivial
end
theorem Kxv{t t':Int}{is is':Bool}(h:nxQ t is=nxQ t' is')(h1:is=false→t=0)(h2:is'=false→t'=0):t=t'∧is=is':=by
 unfold nxQ at h
 simp only[Prod.mk.injEq] at h
 obtain⟨a,rfl⟩:=h
 cases is with
 | true=>exact⟨a,rfl⟩
 | false=>rw[h1 rfl,h2 rfl];exact⟨rfl,rfl⟩
theorem MachinesLive_true(l:List Int)(hl:l.length≤9223372036854775807):∃ al',Lkv 400 l ([],[],[],[],[],[])=some (true,al'):=by
 have key:Ok (Lkv 400 l ([],[],[],[],[],[])) fun r=>r.1=true:=by
  unfold Lkv
  refine Ldl (Krn (b:=0) (l:=l) ⟨rfl,Int.le_refl 0,Int.le_refl 0⟩ 0 12 hl (by decide) (by decide) (by decide) (by decide)) fun y1 h1=>?_
  refine Ldl (Kuh h1.2 hl (by decide) y1.1 (by omega) (by omega)) fun y3 h3=>?_
  obtain⟨⟨hd,hs,hn,e,he,e2,he2,hf⟩,h3⟩:=h3
  refine Ldl (Kup h3 hl (by decide)) fun y5 h5=>?_
  refine Ldl (Krm h5 _ hl (by decide) (by decide) (by decide)) fun y7 h7=>?_
  refine Ldl (Krl (P:=fun x=>∃ b,Lha 400 x=some b∧Lgg x=some b) h7 _ hl (by decide) (by decide) (by decide) Kxt) fun y9 h9=>?_
  refine Ldl (Kxu h9.2 hl (by decide)) fun y11 h11=>?_
  have hb:BagOk (([],[],[],[],[],[]):BagT):=⟨fun e he=>(by cases he),fun e he=>(by cases he),fun e he=>(by cases he),fun e he=>(by cases he)⟩
  have hlog:=Kum hd hs (by omega) he he2
  rw[←hf] at hlog
  have hgood:y3.1.fault=0→AllV y3.1.l∧Srt y3.1.l∧(∀ s∈y3.1.l,s.At<345686400)∧1≤y3.1.d.Life∧y3.1.d.Life≤345686400:=fun h0=>by
   have h01:e=0:=by
    rw[h0] at hf
    by_cases g:e=0
    ·exact g
    simp[g] at hf
    exact hf.symm
   have h02:e2=0:=by
    rw[h0,h01] at hf
    simpa using hf.symm
   subst h01 h02
   obtain⟨a,b⟩:=Kul hs (by omega) he2
   obtain⟨c,_⟩:=Kuk hs (by omega) he2
   obtain⟨e',g1,g2⟩:=Kxe hd
   rw[he] at g1
   cases g1
   exact⟨a,b,fun s hs'=>Kxk (hs s hs') (c s hs'),g2 rfl⟩
  obtain⟨bz,hz,hz'⟩:=Lcg y5.1
  obtain⟨bk,hk,hk'⟩:=h9.1
  obtain⟨a,al1,m1,hb1,a1⟩:=Kwz (z:=y5.1) hlog hz (fun h=>(hgood h).1) hn hb
  obtain⟨b,al2,m2,hb2,b1⟩:=Kxa (z:=y5.1) (w:=y7.1) hlog hz (fun h=>(hgood h).1) hn hb1
  obtain⟨t,is,al3,m3,hb3,c1⟩:=Kyv (z:=y5.1) hlog hz (fun h=>⟨(hgood h).1,(hgood h).2.1⟩) hn hb2
  obtain⟨n,al4,m4,hb4,d1⟩:=Kxd (k:=y9.1) (w:=y11.1) hlog hk (fun h=>⟨(hgood h).1,(hgood h).2.1⟩) hn hb3
  refine Ldm m1 (Ldm m2 (Ldm m3 (Ldm m4 ?_)))
  have hmf:Ljk y5.1=some (bif !bz then 1 else 0):=by
   unfold Ljk
   rw[hz',bi_some]
   cases bz<;>rfl
  have hkf:Ljm y9.1=some (bif !bk then 5 else 0):=by
   unfold Ljm Lgo
   rw[hk',bi_some]
   cases bk<;>rfl
  refine Ldm hmf (Ldm (Kug _ _) ?_)
  have e1:(if y3.1.fault≠0 then y3.1.fault else bif !bz then 1 else 0)=oneF y3.1.fault bz:=rfl
  rw[e1]
  refine Ldm (show Ljl ((decide ((y7.1:Int)<0))||(decide ((y7.1:Int)>345686400))) 1=some (bif (decide ((y7.1:Int)<0))||(decide ((y7.1:Int)>345686400)) then 1 else 0) by unfold Ljl;cases ((decide ((y7.1:Int)<0))||(decide ((y7.1:Int)>345686400)))<;>rfl) (Ldm (Kug _ _) ?_)
  have e2:(if oneF y3.1.fault bz≠0 then oneF y3.1.fault bz else bif (decide ((y7.1:Int)<0))||(decide ((y7.1:Int)>345686400)) then 1 else 0)=endF y3.1.fault y7.1 bz:=rfl
  rw[e2]
  refine Ldm hkf (Ldm (show Ljn y11.1=some (bif badW y11.1 then 1 else 0) by unfold Ljn badW;cases (((decide ((y11.1.From:Int)<0))||(decide ((y11.1.From:Int)>y11.1.To)))||(decide ((y11.1.To:Int)>345686400)))<;>rfl) (Ldm (Kuo _ _ _) ?_))
  have e3:(if y3.1.fault≠0 then y3.1.fault else if (bif !bk then(5:Int) else 0)≠0 then(bif !bk then 5 else 0) else bif badW y11.1 then 1 else 0)=timeF y3.1.fault bk (badW y11.1):=by
   unfold timeF
   by_cases h0:y3.1.fault=0
   ·have hn0:¬ (y3.1.fault≠0):=by simpa using h0
    rw[if_neg hn0,if_neg hn0]
    cases bk<;>simp
   rw[if_pos h0,if_pos h0]
  rw[e3]
  have hbz:oneF y3.1.fault bz=0→0≤y5.1:=fun h=>by
   have h0:=Kwo h
   unfold oneF at h
   rw[if_neg (by simpa using h0)] at h
   have hm:Lhe y5.1=some (decide (y5.1≥0)&&decide (y5.1<345686400)):=rfl
   rw[hm] at hz
   cases bz with
   | false=>simp at h
   | true=>
    have:=oSi hz
    simp only[Bool.and_eq_true,decide_eq_true_eq] at this
    exact this.1
  have endz:endF y3.1.fault y7.1 bz=0→y3.1.fault=0:=fun h=>by
   unfold endF at h
   by_cases h0:oneF y3.1.fault bz=0
   ·exact Kwo h0
   rw[if_pos h0] at h;exact absurd h h0
  have timz:timeF y3.1.fault bk (badW y11.1)=0→y3.1.fault=0∧badW y11.1=false:=fun h=>by
   unfold timeF at h
   by_cases h0:y3.1.fault=0
   ·rw[if_neg (by simpa using h0)] at h
    refine⟨h0,?_⟩
    cases bk with
    | false=>simp at h
    | true=>cases hw:badW y11.1 with
     | false=>rfl
     | true=>rw[hw] at h;simp at h
   rw[if_pos h0] at h;exact absurd h h0
  refine ok_f (by simp only[bne_self_eq_false,Bool.false_or]) ?_
  refine Ldl (P:=fun q:BagT ⊕ (Bool×BagT)=>∃ al,q=.inl al∧BagOk al) (Ldo (fun g=>?_) fun _=>Ldk ⟨_,rfl,hb4⟩) fun q hq=>?_
  ·have g0:oneF y3.1.fault bz=0:=by simpa using g
   obtain⟨hv,ho,hZ,hL⟩:=hgood (Kwo g0)
   obtain⟨t',is',al5,q1,hb5,q2,q3⟩:=Kyt (d:=y3.1.d) (z:=y5.1) hv hn ho hZ (by have:=hbz g0;omega) hb4
   refine Ldm q1 ?_
   obtain⟨al6,q4,hb6⟩:=Kri (d:=y3.1.d) (z:=y5.1) hv (by omega) ho hb5
   refine Ldm q4 ?_
   rw[a1 g0]
   refine Ldm (Kun _) ?_
   obtain⟨c2,c3⟩:=c1 g0
   obtain⟨rfl,rfl⟩:=Kxv (NextP.uniq c2 q2) c3 q3
   exact ok_f (by simp) (Ldk ⟨_,rfl,hb6⟩)
  obtain⟨al5,rfl,hb5⟩:=hq
  refine Ldl (P:=fun q:BagT×Bool=>q.2=true∧BagOk q.1) (Ldo (fun _=>Ldk ⟨rfl,hb5⟩) fun g=>?_) fun q1 hq1=>?_
  ·have g0:endF y3.1.fault y7.1 bz=0:=by simpa using g
   obtain⟨hv,ho,hZ,hL⟩:=hgood (endz g0)
   obtain⟨al6,r1,hb6⟩:=Kxb (d:=y3.1.d) (z:=y5.1) (w:=y7.1) hv hn ho hb5
   refine Ldm r1 ?_
   rw[b1 g0]
   exact Ldm (Kun _) (Ldk ⟨rfl,hb6⟩)
  refine Ldl (P:=fun q:BagT×Bool=>q.2=true) (ok_t hq1.1 (Ldl (P:=fun q:BagT×Bool=>q.2=true) (Ldo (fun _=>Ldk rfl) fun g=>?_) fun q hq=>Ldk hq)) fun q2 hq2=>?_
  ·have g0:timeF y3.1.fault bk (badW y11.1)=0:=by simpa using g
   obtain⟨h0,hw⟩:=timz g0
   obtain⟨hv,ho,hZ,hL⟩:=hgood h0
   obtain⟨al6,r1⟩:=Kxs (d:=y3.1.d) (k:=y9.1) (w:=y11.1) hv hn ho hZ hw hL hq1.2
   refine Ldm r1 ?_
   rw[d1 g0]
   exact Ldk (by simp)
  exact Ldm (Kuq hq2) (Ldk rfl)
 obtain⟨⟨r,al'⟩,h,rfl⟩:=key
 exact⟨al',h⟩
end Go.Gk
