import Derived.Test.YtjmlnnanfkiakaaGreatDoorSDraw
import Derived.Test.YtjmlnnanfkiakaaGreatDoorPLoop
set_option linter.all false
set_option maxRecDepth 100000
namespace Go.Gk
def ixZ{α:Type}(p:α→Bool)(l:List α):Int:=match l.findIdx? p with
 | some i=>(i:Int)
 | none=>-1
theorem Kza{α:Type}{p:α→Bool}{l:List α}(h:l.any p=false):ixZ p l=-1:=by
 unfold ixZ
 rw[List.findIdx?_eq_none_iff.2 (by simpa using h)]
theorem Kzb{α:Type}{p:α→Bool}{l:List α}(h:l.any p=true):∃ (i:Nat) (a:α),ixZ p l=(i:Int)∧l.findIdx? p=some i∧l[i]?=some a∧p a=true∧(l.take i).any p=false:=by
 unfold ixZ
 cases hi:l.findIdx? p with
 | none=>
  rw[List.findIdx?_eq_none_iff] at hi
  rw[List.any_eq_true] at h
  obtain⟨x,hx,hp⟩:=h
  rw[hi x hx] at hp;cases hp
 | some i=>
  obtain⟨h1,h2,h3⟩:=List.findIdx?_eq_some_iff_getElem.1 hi
  refine⟨i,l[i],rfl,rfl,List.getElem?_eq_getElem h1,h2,?_⟩
  rw[List.any_eq_false]
  intro x hx
  obtain⟨j,hj,e⟩:=List.getElem_of_mem hx
  rw[List.length_take] at hj
  rw[List.getElem_take] at e
  subst e
  have:=h3 j (by omega)
  simpa using this
theorem Kzc{α:Type}(p:α→Bool)(l:List α):decide (ixZ p l≥0)=l.any p:=by
 cases h:l.any p with
 | false=>rw[Kza h];rfl
 | true=>obtain⟨i,a,e,_⟩:=Kzb h;rw[e];simp
theorem Kzd{α:Type}(p:α→Bool)(l:List α):decide (ixZ p l<0)=!l.any p:=by
 cases h:l.any p with
 | false=>rw[Kza h];rfl
 | true=>obtain⟨i,a,e,_⟩:=Kzb h;rw[e];simp
theorem Kze{α:Type}{f:Nat→α→Unit→Option (LS Unit Int)}(p:α→Bool):∀ (l:List α) (i:Nat),(∀ (j:Nat) x,l[j]?=some x→f (i+j) x ()=some (if p x then .out ((i+j:Nat):Int) else .go ()))→
  rangeM f i l ()=some (match l.findIdx? p with | some j=>.out ((i+j:Nat):Int) | none=>.go ())
 | [],i,_=>rfl
 | x :: l,i,h=>by
  have h0:=h 0 x (by simp)
  have ih:=Kze p l (i+1) fun j y hy=>by rw[show i+1+j=i+(j+1) by omega];exact h (j+1) y (by simpa using hy)
  rw[Nat.add_zero] at h0
  simp only[rangeM,h0,List.findIdx?_cons]
  by_cases hp:p x=true
  ·simp[hp]
  ·simp only[Bool.not_eq_true] at hp
   simp only[hp,Bool.false_eq_true,if_false,ih]
   cases l.findIdx? p with
   | none=>rfl
   | some j=>simp only[Option.map_some];rw[show i+1+j=i+(j+1) by omega]
theorem Kzf{α:Type}{f:Nat→α→Unit→Option (LS Unit Int)}(p:α→Bool)(l:List α)(h:∀ (j:Nat) x,l[j]?=some x→f j x ()=some (if p x then .out (j:Int) else .go ())) :
  (bi (rangeM f 0 l ()) fun q=>goI q fun _=>some (-1))=some (ixZ p l):=by
 rw[Kze p l 0 fun j x hx=>by rw[Nat.zero_add];exact h j x hx]
 unfold ixZ
 cases l.findIdx? p with
 | none=>rfl
 | some j=>simp
theorem Kzg{α σ ρ:Type}{f:Nat→σ→Option (LS σ ρ)}{g:Nat→α→σ→Option (LS σ ρ)}(l:List α)(h:∀ (j:Nat) x s,l[j]?=some x→f j s=g j x s)(s:σ):rangeI f (l.length:Int) s=rangeM g 0 l s:=by
 have key:∀ (m:List α) (i:Nat) (s:σ),(∀ (j:Nat) x s,m[j]?=some x→f (i+j) s=g (i+j) x s)→rangeM (fun i (_:Unit) s=>f i s) i (List.replicate m.length ()) s=rangeM g i m s:=by
  intro m
  induction m with
  | nil=>intro i s _;rfl
  | cons x m ih=>
   intro i s h
   have h0:=h 0 x s (by simp)
   rw[Nat.add_zero] at h0
   simp only[List.length_cons,List.replicate_succ,rangeM,h0]
   cases g i x s with
   | none=>rfl
   | some y=>
    cases y with
    | out r=>rfl
    | go s'=>exact ih (i+1) s' fun j y s hy=>by rw[show i+1+j=i+(j+1) by omega];exact h (j+1) y s (by simpa using hy)
 unfold rangeI
 rw[Int.toNat_natCast]
 exact key l 0 s fun j x s hx=>by rw[Nat.zero_add];exact h j x s hx
theorem Kzh{α:Type}{f:Nat→Unit→Option (LS Unit Int)}(p:α→Bool)(l:List α)(h:∀ (j:Nat) x,l[j]?=some x→f j ()=some (if p x then .out (j:Int) else .go ())) :
  (bi (rangeI f (l.length:Int) ()) fun q=>goI q fun _=>some (-1))=some (ixZ p l):=by
 rw[Kzg (g:=fun j x _=>some (if p x then .out (j:Int) else .go ())) l (fun j x s hx=>h j x hx)]
 exact Kzf p l fun j x hx=>rfl
theorem Kzi{α:Type}(p:α→Bool)(g:α→Option Bool)(s:List α)(hg:∀ x∈s,g x=some (p x))(hs:s.length≤4294967296)
  {f:(List α)×Int×Int→Option (LS ((List α)×Int×Int) ((List α)×Int))}
  (hf:∀ s6,f s6=bif decide ((s6.2.2:Int)<(s6.1.length:Int)) then(bi (getZ s6.1 s6.2.2) fun x16=>bi (g x16) fun y19=>bif !y19 then(bi (getZ s6.1 s6.2.1) fun x22=>some (.go (s6.1.set s6.2.1.toNat x16,wi (s6.2.1+1),wi (s6.2.2+1)))) else(some (.go (s6.1,s6.2.1,wi (s6.2.2+1))))) else(some (.out (s6.1,s6.2.1)))) :
  ∀ (k:Nat) (a:List α) (i j:Nat),i≤j→j≤s.length→a.length=s.length→a.drop j=s.drop j→a.take i=(s.take j).filter (fun x=>!p x)→s.length - j<k→
   ∃ (a':List α) (i':Nat),loopM f k (a,(i:Int),(j:Int))=some (a',(i':Int))∧i'≤a'.length∧a'.take i'=s.filter (fun x=>!p x)
 | 0,a,i,j,_,_,_,_,_,h=>absurd h (Nat.not_lt_zero _)
 | k+1,a,i,j,h1,h2,h3,h4,h5,h6=>by
  unfold loopM
  rw[hf]
  by_cases hj:j<s.length
  ·have haj:a[j]?=some s[j]:=by
    have:=congrArg (fun q=>q[0]?) h4
    simpa [hj] using this
   have hw:wi ((j:Int)+1)=((j+1:Nat):Int):=by rw[Kxl (by omega) (by omega)];omega
   have hwi:wi ((i:Int)+1)=((i+1:Nat):Int):=by rw[Kxl (by omega) (by omega)];omega
   have hs1:s.take (j+1)=s.take j++[s[j]]:=by rw[List.take_add_one,List.getElem?_eq_getElem hj];rfl
   simp only
   rw[decide_eq_true (show(j:Int)<(a.length:Int) by omega)]
   simp only[cond_true,getZ_cast,haj,bi_some,hg _ (List.getElem_mem hj),hw,hwi,Int.toNat_natCast]
   cases hp:p s[j] with
   | true=>
    simp only[Bool.not_true,cond_false]
    refine Kzi p g s hg hs hf k a i (j+1) (by omega) (by omega) h3 (by rw[←List.drop_drop,h4,List.drop_drop]) ?_ (by omega)
    rw[hs1,List.filter_append,h5];simp[hp]
   | false=>
    have hai:a[i]?=some (a[i]'(by omega)):=List.getElem?_eq_getElem _
    simp only[Bool.not_false,cond_true,hai,bi_some]
    refine Kzi p g s hg hs hf k (a.set i s[j]) (i+1) (j+1) (by omega) (by omega) (by rw[List.length_set];exact h3) ?_ ?_ (by omega)
    ·rw[List.drop_set_of_lt (by omega),←List.drop_drop,h4,List.drop_drop]
    ·rw[hs1,List.filter_append,←h5,List.take_add_one,List.getElem?_set_self (by omega),List.take_set_of_le (Nat.le_refl _)]
     simp[hp]
  ·simp only
   rw[decide_eq_false (show ¬ (j:Int)<(a.length:Int) by omega)]
   refine⟨a,i,rfl,by omega,?_⟩
   rw[h5,List.take_of_length_le (by omega)]
theorem Kzj{α:Type}(p:α→Bool)(g:α→Option Bool)(s:List α)(k:Nat)(hg:∀ x∈s,g x=some (p x))(hs:s.length≤4294967296)(hk:s.length<k) :
  (bif (ixZ p s:Int)==(-1) then(some s) else(bi (loopM (σ:=(List α)×Int×Int) (ρ:=(List α)×Int) (fun s6=>bif decide ((s6.2.2:Int)<(s6.1.length:Int)) then(bi (getZ s6.1 s6.2.2) fun x16=>bi (g x16) fun y19=>bif !y19 then(bi (getZ s6.1 s6.2.1) fun x22=>some (.go (s6.1.set s6.2.1.toNat x16,wi (s6.2.1+1),wi (s6.2.2+1)))) else(some (.go (s6.1,s6.2.1,wi (s6.2.2+1))))) else(some (.out (s6.1,s6.2.1)))) k (s,ixZ p s,wi (ixZ p s+1))) fun q8=>bi (subZ q8.1 q8.2 (q8.1.length:Int)) fun z27=>some (q8.1.take q8.2.toNat)))=some (s.filter fun x=>!p x):=by
 cases h:s.any p with
 | false=>
  rw[Kza h]
  have:s.filter (fun x=>!p x)=s:=List.filter_eq_self.2 fun x hx=>by
   have:=List.any_eq_false.1 h x hx
   simpa using this
  rw[this];rfl
 | true=>
  obtain⟨i,a,e,h1,h2,h3,h4⟩:=Kzb h
  have hi:i<s.length:=(List.getElem?_eq_some_iff.1 h2).1
  rw[e,show(((i:Int):Int)==(-1))=false by simp]
  rw[show wi ((i:Int)+1)=((i+1:Nat):Int) by rw[Kxl (by omega) (by omega)];omega]
  simp only[cond_false]
  obtain⟨a',i',h5,h6,h7⟩:=Kzi p g s hg hs (fun _=>rfl) k s i (i+1) (by omega) (by omega) rfl rfl (by
   have hs1:s.take (i+1)=s.take i++[a]:=by rw[List.take_add_one,h2];rfl
   rw[hs1,List.filter_append,List.filter_eq_self.2 fun x hx=>by
    have:=List.any_eq_false.1 h4 x hx
    simpa using this]
   simp[h3]) (by omega)
  rw[h5]
  simp only[bi_some]
  rw[Kwh (by omega) (Nat.le_refl _)]
  simp only[bi_some,Int.toNat_natCast,h7]
def ups{α:Type}(q:α→Bool)(f:α→α)(y:α):List α→List α
 | []=>[y]
 | a :: l=>if q a then f a :: l else a :: ups q f y l
theorem Kzk{α:Type}{q:α→Bool}{f:α→α}{y:α}:∀ {l:List α},l.any q=false→ups q f y l=l++[y]
 | [],_=>rfl
 | a :: l,h=>by
  simp only[List.any_cons,Bool.or_eq_false_iff] at h
  simp[ups,h.1,Kzk h.2]
theorem Kzl{α:Type}{q:α→Bool}{f:α→α}{y:α}:∀ {l:List α} {i:Nat} {a:α},l.findIdx? q=some i→l[i]?=some a→ups q f y l=l.set i (f a)
 | [],i,a,h,_=>by simp at h
 | b :: l,i,a,h,h2=>by
  rw[List.findIdx?_cons] at h
  by_cases hb:q b=true
  ·simp only[hb,if_true,Option.some.injEq] at h
   subst h
   simp only[List.getElem?_cons_zero,Option.some.injEq] at h2
   subst h2
   simp[ups,hb]
  simp only[Bool.not_eq_true] at hb
  simp only[hb,Bool.false_eq_true,if_false,Option.map_eq_some_iff] at h
  obtain⟨j,hj,rfl⟩:=h
  simp only[List.getElem?_cons_succ] at h2
  simp[ups,hb,Kzl hj h2]
theorem Kzm{α:Type}{q fr:α→Bool}{f:α→α}{y:α}(hy:fr y=true)(hf:∀ a,q a=true→fr a=true→fr (f a)=true):∀ (l:List α),(ups (fun a=>q a&&fr a) f y l).filter fr=ups q f y (l.filter fr)
 | []=>by simp[ups,hy]
 | a :: l=>by
  by_cases h1:fr a=true
  ·by_cases h2:q a=true
   ·simp[ups,h1,h2,hf a h2 h1]
   simp only[Bool.not_eq_true] at h2
   simp[ups,h1,h2,Kzm hy hf l]
  simp only[Bool.not_eq_true] at h1
  simp[ups,h1,Kzm hy hf l]
theorem Kzn{α β:Type}{q:α→Bool}{f:α→α}{y:α}(g:α→β)(hg:∀ a,g (f a)=g a):∀ (l:List α),(ups q f y l).map g=if l.any q then l.map g else l.map g++[g y]
 | []=>rfl
 | a :: l=>by
  by_cases h:q a=true
  ·simp[ups,h,hg]
  simp only[Bool.not_eq_true] at h
  simp only[ups,h,Bool.false_eq_true,if_false,List.map_cons,Kzn g hg l,List.any_cons,Bool.false_or]
  cases l.any q<;>simp
theorem Kzo{α:Type}{q:α→Bool}{f:α→α}{y b:α}:∀ {l:List α},b∈ups q f y l→b∈l∨b=y∨∃ a∈l,q a=true∧b=f a
 | [],h=>.inr (.inl (by simpa [ups] using h))
 | a :: l,h=>by
  by_cases hq:q a=true
  ·simp only[ups,hq,if_true,List.mem_cons] at h
   rcases h with rfl | h
   ·exact .inr (.inr ⟨a,List.mem_cons_self,hq,rfl⟩)
   exact .inl (List.mem_cons_of_mem _ h)
  simp only[Bool.not_eq_true] at hq
  simp only[ups,hq,Bool.false_eq_true,if_false,List.mem_cons] at h
  rcases h with rfl | h
  ·exact .inl List.mem_cons_self
  rcases Kzo h with h | h | ⟨c,h1,h2,h3⟩
  ·exact .inl (List.mem_cons_of_mem _ h)
  ·exact .inr (.inl h)
  exact .inr (.inr ⟨c,List.mem_cons_of_mem _ h1,h2,h3⟩)
inductive F2 {α β:Type} (R:α→β→Prop):List α→List β→Prop
 | nil:F2 R [] []
 | cons {a:α} {b:β} {l:List α} {m:List β}:R a b→F2 R l m→F2 R (a :: l) (b :: m)
theorem F2.len{α β:Type}{R:α→β→Prop}{l:List α}{m:List β}(h:F2 R l m):l.length=m.length:=by
 induction h with
 | nil=>rfl
 | cons _ _ ih=>simp[ih]
theorem F2.at{α β:Type}{R:α→β→Prop}{l:List α}{m:List β}(h:F2 R l m):∀ {i:Nat} {a:α},l[i]?=some a→∃ b,m[i]?=some b∧R a b:=by
 induction h with
 | nil=>intro i a h;simp at h
 | cons hr _ ih=>
  intro i a h
  cases i with
  | zero=>simp only[List.getElem?_cons_zero,Option.some.injEq] at h;subst h;exact⟨_,by simp,hr⟩
  | succ i=>simpa using ih (by simpa using h)
theorem F2.mem{α β:Type}{R:α→β→Prop}{l:List α}{m:List β}(h:F2 R l m){a:α}(ha:a∈l):∃ b∈m,R a b:=by
 obtain⟨i,hi,e⟩:=List.getElem_of_mem ha
 obtain⟨b,h1,h2⟩:=h.at (by rw[List.getElem?_eq_getElem hi,e])
 exact⟨b,List.mem_of_getElem? h1,h2⟩
theorem F2.filter{α β:Type}{R:α→β→Prop}{p:α→Bool}{q:β→Bool}{l:List α}{m:List β}(h:F2 R l m)(hp:∀ a b,R a b→p a=q b):F2 R (l.filter p) (m.filter q):=by
 induction h with
 | nil=>exact .nil
 | @cons a b l m hr _ ih=>
  simp only[List.filter_cons,hp a b hr]
  cases q b with
  | true=>exact .cons hr ih
  | false=>exact ih
theorem F2.any{α β:Type}{R:α→β→Prop}{p:α→Bool}{q:β→Bool}{l:List α}{m:List β}(h:F2 R l m)(hp:∀ a b,R a b→p a=q b):l.any p=m.any q:=by
 induction h with
 | nil=>rfl
 | @cons a b l m hr _ ih=>simp[hp a b hr,ih]
theorem F2.ups{α β:Type}{R:α→β→Prop}{p:α→Bool}{q:β→Bool}{f:α→α}{g:β→β}{y:α}{z:β}{l:List α}{m:List β}(h:F2 R l m)(hp:∀ a b,R a b→p a=q b)(hf:∀ a b,R a b→q b=true→R (f a) (g b))(hy:R y z):F2 R (ups p f y l) (ups q g z m):=by
 induction h with
 | nil=>exact .cons hy .nil
 | @cons a b l m hr ht ih=>
  simp only[Go.Gk.ups,hp a b hr]
  by_cases hq:q b=true
  ·simp only[hq,if_true];exact .cons (hf a b hr hq) ht
  simp only[Bool.not_eq_true] at hq;simp only[hq,Bool.false_eq_true,if_false];exact .cons hr ih
theorem Kzp{α:Type}[DecidableEq α]:∀ {l m:List α},l.Nodup→(∀ x∈l,x∈m)→l.length≤m.length
 | [],m,_,_=>Nat.zero_le _
 | a :: l,m,h,hs=>by
  rw[List.nodup_cons] at h
  have ha:=hs a List.mem_cons_self
  have:=Kzp (m:=m.erase a) h.2 fun x hx=>(List.mem_erase_of_ne (fun e=>by subst e;exact h.1 hx)).2 (hs x (List.mem_cons_of_mem _ hx))
  rw[List.length_erase_of_mem ha] at this
  have:=List.length_pos_of_mem ha
  simp only[List.length_cons]
  omega
def Lv(al:List Bool)(ts:List Nat):Prop:=(∀ t∈ts,t=1∨∃ q,t=q+2∧al[q]?=some true)∧ts.Pairwise (fun a b=>a=b→a=1)
def Exl(n:Nat)(al al':List Bool):Prop:=al.length≤al'.length∧n≤al.length∧∀ q,q<n→al'[q]?=al[q]?
theorem Exl.rfl'{al:List Bool}:Exl al.length al al:=⟨Nat.le_refl _,Nat.le_refl _,fun _ _=>rfl⟩
theorem Lv.ext{al al':List Bool}{ts:List Nat}(h:Lv al ts)(he:Exl al.length al al'):Lv al' ts:=by
 refine⟨fun t ht=>?_,h.2⟩
 rcases h.1 t ht with h | ⟨q,e,h⟩
 ·exact .inl h
 exact .inr ⟨q,e,by rw[he.2.2 q (List.getElem?_eq_some_iff.1 h).1];exact h⟩
theorem Lv.sub{al:List Bool}{ts ts':List Nat}(h:Lv al ts)(hs:ts'.Sublist ts):Lv al ts':=⟨fun t ht=>h.1 t (hs.subset ht),h.2.sublist hs⟩
theorem Lv.one{al:List Bool}{ts:List Nat}(h:Lv al ts):Lv al (ts++[1]):=by
 refine⟨fun t ht=>?_,?_⟩
 ·rcases List.mem_append.1 ht with ht | ht
  ·exact h.1 t ht
  exact .inl (List.mem_singleton.1 ht)
 rw[List.pairwise_append]
 exact⟨h.2,List.pairwise_singleton _ _,fun a ha b hb e=>by rw[e];exact List.mem_singleton.1 hb⟩
theorem Lv.lt{al:List Bool}{ts:List Nat}(h:Lv al ts):∀ t∈ts,t<al.length+2:=fun t ht=>by
 rcases h.1 t ht with rfl | ⟨q,rfl,h⟩
 ·omega
 have:=(List.getElem?_eq_some_iff.1 h).1;omega
theorem Kzq{α:Type}{R:α→α→Prop}{l:List α}(h:l.Pairwise R){i j:Nat}{a b:α}(hij:i<j)(ha:l[i]?=some a)(hb:l[j]?=some b):R a b:=by
 obtain⟨h1,rfl⟩:=List.getElem?_eq_some_iff.1 ha
 obtain⟨h2,rfl⟩:=List.getElem?_eq_some_iff.1 hb
 exact List.pairwise_iff_getElem.1 h i j h1 h2 hij
theorem Kzr{α:Type}{R:α→α→Prop}{l:List α}(h:∀ (i j:Nat) (a b:α),i<j→l[i]?=some a→l[j]?=some b→R a b):l.Pairwise R:=
 List.pairwise_iff_getElem.2 fun i j h1 h2 hij=>h i j _ _ hij (List.getElem?_eq_getElem h1) (List.getElem?_eq_getElem h2)
theorem Lv.app{α:Type}{al:List Bool}{ts:List Nat}{i:Nat}{s:Tl α}(y:α)(h:Lv al ts)(hi:ts[i]?=some s.1)(hl:s.2.length<4294967296) :
  ∃ al',appT al s [y]=some ((al.length+2,s.2++[y]),al')∧Lv al' (ts.set i (al.length+2))∧al'.length=al.length+1∧∀ q,q<al.length→q+2≠s.1→al'[q]?=al[q]?:=by
 have hap:apd s.2 [y]=some (s.2++[y]):=Kxu (by simp;omega)
 have hlt:=h.lt
 have key:∀ al0:List Bool,al0.length=al.length→(∀ q,q<al.length→q+2≠s.1→al0[q]?=al[q]?)→Lv (al0++[true]) (ts.set i (al.length+2)):=by
  intro al0 hl0 hq
  have hil:i<ts.length:=(List.getElem?_eq_some_iff.1 hi).1
  refine⟨fun t ht=>?_,Kzr fun a b x z hab hx hz e=>?_⟩
  ·obtain⟨j,hj,e⟩:=List.getElem_of_mem ht
   rw[List.length_set] at hj
   by_cases hji:i=j
   ·subst hji
    rw[List.getElem_set_self] at e
    subst e
    exact .inr ⟨al.length,rfl,by rw[←hl0];simp⟩
   ·rw[List.getElem_set_ne hji] at e
    rcases h.1 t (e▸List.getElem_mem _) with h1 | ⟨q,e1,h1⟩
    ·exact .inl h1
    ·have hq1:=(List.getElem?_eq_some_iff.1 h1).1
     refine .inr ⟨q,e1,?_⟩
     rw[List.getElem?_append_left (by omega),hq q hq1 ?_]
     ·exact h1
     ·rw[←e1];intro e2
      have hj':ts[j]?=some t:=by rw[List.getElem?_eq_getElem hj,e]
      rcases Nat.lt_or_ge i j with h3 | h3
      ·have:=Kzq h.2 h3 hi hj' e2.symm;omega
      ·have:=Kzq h.2 (show j<i by omega) hj' hi e2;omega
  ·rw[List.getElem?_set] at hx hz
   by_cases h1:i=a
   ·subst h1
    rw[if_pos rfl,if_pos hil] at hx
    rw[if_neg (by omega)] at hz
    cases hx
    have:=hlt z (List.mem_of_getElem? hz);omega
   ·rw[if_neg h1] at hx
    by_cases h2:i=b
    ·subst h2
     rw[if_pos rfl,if_pos hil] at hz
     cases hz
     have:=hlt x (List.mem_of_getElem? hx);omega
    ·rw[if_neg h2] at hz
     exact Kzq h.2 hab hx hz e
 obtain⟨t,l⟩:=s
 unfold appT
 simp only at hap hi key ⊢
 rw[hap]
 simp only[bi_some,List.isEmpty_cons,cond_false]
 rcases h.1 t (List.mem_of_getElem? hi) with rfl | ⟨q,rfl,hq⟩
 ·exact⟨_,rfl,key al rfl fun _ _ _=>rfl,by simp,fun q hq _=>by rw[List.getElem?_append_left hq]⟩
 ·simp only[hq,Option.getD_some,cond_true]
  refine⟨_,rfl,key _ (by simp) fun q' h1 h2=>by rw[List.getElem?_set_ne (by omega)],by simp,fun q' h1 h2=>by rw[List.getElem?_append_left (by simpa using h1),List.getElem?_set_ne (by omega)]⟩
end Go.Gk
