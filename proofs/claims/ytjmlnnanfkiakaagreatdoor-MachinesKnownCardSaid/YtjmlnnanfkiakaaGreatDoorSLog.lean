import Derived.Test.YtjmlnnanfkiakaaGreatDoorSDir
set_option linter.all false
set_option maxRecDepth 100000
namespace Go.Gk
section
variable{K V:Type}[BEq K][LawfulBEq K][KLt K]
theorem Kzs(e:K×V)(m:List (K×V))(k:K):mGet (e :: m) k=if k==e.1 then some e.2 else mGet m k:=by
 unfold mGet
 simp only[List.find?_cons]
 cases (k==e.1)<;>rfl
theorem Kzt(k:K)(v:V)(k':K):∀ m:List (K×V),(∀ e∈m,(k==e.1)=false)→mGet (mIns k v m) k'=if k'==k then some v else mGet m k'
 | [],_=>by simp only[mIns,Kzs]
 | e :: m,h=>by
  have h0:=h e List.mem_cons_self
  simp only[mIns]
  cases KLt.lt k e.1 with
  | true=>simp only[cond_true,Kzs]
  | false=>
   simp only[cond_false]
   rw[Kzs,Kzt k v k' m fun e he=>h e (List.mem_cons_of_mem _ he),Kzs]
   by_cases h2:k'=e.1
   ·subst h2
    have:(e.1==k)=false:=by
     rw[beq_eq_false_iff_ne] at h0 ⊢;exact Ne.symm h0
    simp[this]
   have:(k'==e.1)=false:=by simpa using h2
   simp[this]
theorem Kzu(m:List (K×V))(k:K)(v:V)(k':K):mGet (mSet m k v) k'=if k'==k then some v else mGet m k':=by
 unfold mSet
 cases hf:m.findIdx? (fun e=>k==e.1) with
 | none=>exact Kzt k v k' m (by simpa using List.findIdx?_eq_none_iff.1 hf)
 | some i=>
  simp only
  induction m generalizing i with
  | nil=>simp at hf
  | cons e m ih=>
   rw[List.findIdx?_cons] at hf
   by_cases hk:k=e.1
   ·subst hk
    simp at hf
    subst hf
    simp only[List.set_cons_zero,Kzs]
    by_cases h2:k'=e.1
    ·subst h2;simp
    have:(k'==e.1)=false:=by simpa using h2
    simp[this]
   have hk2:(k==e.1)=false:=by simpa using hk
   rw[hk2] at hf
   simp only[Bool.false_eq_true,if_false,Option.map_eq_some_iff] at hf
   obtain⟨j,hj,rfl⟩:=hf
   simp only[List.set_cons_succ,Kzs,ih j hj]
   by_cases h2:k'=e.1
   ·subst h2
    have:(e.1==k)=false:=by simpa using Ne.symm hk
    simp[this]
   have:(k'==e.1)=false:=by simpa using h2
   simp[this]
end
def sameO(x y:Lby):Bool:=((x.Server:Str)==y.Server)&&((x.No:Int)==y.No)
def Once(l:List Lby):Prop:=∀ (i:Nat) x,l[i]?=some x→(l.take i).any (fun y=>sameO y x)=false
def og(x:Lby):Lca:=⟨x.Server,x.No⟩
theorem Kzv(x y:Lby):(og y==og x)=sameO x y:=by
 rw[Bool.eq_iff_iff]
 unfold og sameO
 simp only[beq_iff_eq,Lca.mk.injEq,Bool.and_eq_true]
 exact⟨fun h=>⟨h.1.symm,h.2.symm⟩,fun h=>⟨h.1.symm,h.2.symm⟩⟩
theorem Kzw(a b:Lby):∃ c,Lcy a b=some c:=by
 unfold Lcy Kvl
 rw[Kyb,Kyb]
 simp only[bi_some]
 obtain⟨c,h,_⟩:=Kyc (cmpI a.At b.At) [Lib.compareBytes a.Server b.Server,cmpI a.No b.No]
 rw[h]
 exact⟨_,rfl⟩
theorem Kzx(l:List Lby)(x:Lby):Ldt l x=some (l.any fun y=>sameO y x):=by
 unfold Ldt Lds
 rw[Kzf (fun y=>sameO y x) l (fun j y _=>by unfold Ldr sameO;cases ((y.Server:Str)==x.Server)<;>cases ((y.No:Int)==x.No)<;>rfl),bi_some,Kzc]
theorem Kzy{α:Type}{l:List α}{i:Nat}{x:α}(h:l[i]?=some x):l.take (i+1)=l.take i++[x]:=by
 rw[List.take_add_one,h];rfl
theorem Kzz{l:List Lby}{i:Nat}{x:Lby}(hx:l[i]?=some x)(hl:l.length≤100000):∃ b,
  (bif decide (((i:Int):Int)>0) then(bi (getZ l (wi ((i:Int) - 1))) fun x23=>bi (Len x23 x) fun y25=>some (decide ((y25:Int)≥0))) else(some false))=some b∧
  (bif decide (((i:Int):Int)>0) then(bi (getZ l (wi ((i:Int) - 1))) fun x23=>bi (Lcy x23 x) fun y25=>some (decide ((y25:Int)≥0))) else(some false))=some b:=by
 have e:Len=Lcy:=rfl
 rw[e]
 obtain⟨b,h,_⟩:=Kxb (g:=fun x23=>bi (Lcy x23 x) fun y25=>some (decide ((y25:Int)≥0))) hx hl fun y=>by
  obtain⟨c,hc⟩:=Kzw y x
  rw[hc]
  exact Lab trivial
 exact⟨b,h,h⟩
theorem Laa{l:List Lby}(h:∀ x∈l,StepOk x)(hl:l.length≤1000):∃ e,Lep 400 l=some e∧Ldu l=some e∧(e=0→Once l):=by
 have key:Two (Lep 400 l) (Ldu l) fun a b=>a=b∧(b=0→Once l):=by
  unfold Lep Ldu
  rw[decide_eq_false (show ¬ ((l.length:Int)>2000) by omega)]
  simp only[cond_false]
  refine Las (Laz (fun i (s:List (Lca×Bool)) (_:Unit)=>(∀ y,(mGet s (og y)).getD false=(l.take i).any fun z=>sameO z y)∧∀ (j:Nat) x,j<i→l[j]?=some x→(l.take j).any (fun y=>sameO y x)=false) (fun a b=>a=b∧b≠0) ⟨fun y=>by simp[mGet],fun j x hj=>absurd hj (by omega)⟩ fun i x s t hx hI=>?_) fun r q hr=>?_
  ·obtain⟨e,h1,h2⟩:=Kyu (h x (List.mem_of_getElem? hx))
   rw[h1,h2,bi_some,bi_some]
   refine Lau rfl (fun he=>Lan ⟨rfl,by simpa using he⟩) fun _=>?_
   obtain⟨b,h3,h4⟩:=Kzz hx (by omega)
   have hi:i<l.length:=(List.getElem?_eq_some_iff.1 hx).1
   rw[h3,h4,bi_some,bi_some]
   refine Lau rfl (fun he=>Lan ⟨rfl,by decide⟩) fun _=>?_
   rw[show subZ l 0 (i:Int)=some (l.take i) from(Kwh (i:=0) (Nat.zero_le _) (by omega)).trans rfl]
   refine Lar rfl ?_
   refine Lar (Kzx _ _) ?_
   show Two (bif (mGet s (og x)).getD false then _ else some (LS.go (mSet s (og x) true))) _ _
   refine Lau (hI.1 x) (fun he=>Lan ⟨rfl,by decide⟩) fun he=>Lan ⟨fun y=>?_,fun j z hj hz=>?_⟩
   ·rw[Kzu,Kzv,Kzy hx,List.any_append]
    simp only[List.any_cons,List.any_nil,Bool.or_false]
    cases hs:sameO x y with
    | true=>simp
    | false=>simpa using hI.1 y
   by_cases hji:j=i
   ·subst hji
    rw[hx] at hz;cases hz
    rw[hI.1 x] at he;exact he
   exact hI.2 j z (by omega) hz
  cases r with
  | out a=>
   cases q with
   | out b=>exact Lan ⟨hr.1,fun h0=>absurd h0 hr.2⟩
   | go t=>exact hr.elim
  | go s=>
   cases q with
   | out b=>exact hr.elim
   | go t=>exact Lan ⟨rfl,fun _ i x hx=>hr.2 i x (List.getElem?_eq_some_iff.1 hx).1 hx⟩
 obtain⟨a,b,h1,h2,rfl,h3⟩:=key
 exact⟨a,h1,h2,h3⟩
end Go.Gk
