import Derived.Test.YtjmlnnanfkiakaaGreatDoorSDir
set_option linter.unusedVariables false
set_option linter.unusedSimpArgs false
set_option linter.unusedSectionVars false
set_option maxRecDepth 100000
namespace Go.Gk
section
variable {K V:Type} [BEq K] [LawfulBEq K] [KLt K]
theorem gGet_cons (e:K×V) (m:List (K×V)) (k:K):mGet (e :: m) k=if k==e.1 then some e.2 else mGet m k:=by
 unfold mGet
 simp only [List.find?_cons]
 cases (k==e.1)<;>rfl
theorem gGet_ins (k:K) (v:V) (k':K):∀ m:List (K×V),(∀ e∈m,(k==e.1)=false)→mGet (mIns k v m) k'=if k'==k then some v else mGet m k'
 | [],_=>by simp only [mIns,gGet_cons]
 | e :: m,h=>by
  have h0:=h e List.mem_cons_self
  simp only [mIns]
  cases KLt.lt k e.1 with
  | true=>simp only [cond_true,gGet_cons]
  | false=>
   simp only [cond_false]
   rw [gGet_cons,gGet_ins k v k' m fun e he=>h e (List.mem_cons_of_mem _ he),gGet_cons]
   by_cases h2:k'=e.1
   ·subst h2
    have:(e.1==k)=false:=by
     rw [beq_eq_false_iff_ne] at h0 ⊢; exact Ne.symm h0
    simp [this]
   ·have:(k'==e.1)=false:=by simpa using h2
    simp [this]
theorem gGet_set (m:List (K×V)) (k:K) (v:V) (k':K):mGet (mSet m k v) k'=if k'==k then some v else mGet m k':=by
 unfold mSet
 cases hf:m.findIdx? (fun e=>k==e.1) with
 | none=>exact gGet_ins k v k' m (by simpa using List.findIdx?_eq_none_iff.1 hf)
 | some i=>
  simp only
  induction m generalizing i with
  | nil=>simp at hf
  | cons e m ih=>
   rw [List.findIdx?_cons] at hf
   by_cases hk:k=e.1
   ·subst hk
    simp at hf
    subst hf
    simp only [List.set_cons_zero,gGet_cons]
    by_cases h2:k'=e.1
    ·subst h2; simp
    ·have:(k'==e.1)=false:=by simpa using h2
     simp [this]
   ·have hk2:(k==e.1)=false:=by simpa using hk
    rw [hk2] at hf
    simp only [Bool.false_eq_true,if_false,Option.map_eq_some_iff] at hf
    obtain ⟨j,hj,rfl⟩:=hf
    simp only [List.set_cons_succ,gGet_cons,ih j hj]
    by_cases h2:k'=e.1
    ·subst h2
     have:(e.1==k)=false:=by simpa using Ne.symm hk
     simp [this]
    ·have:(k'==e.1)=false:=by simpa using h2
     simp [this]
end
def sameO (x y:Kbb):Bool:=((x.Server:Str)==y.Server)&&((x.No:Int)==y.No)
def Once (l:List Kbb):Prop:=∀ (i:Nat) x,l[i]?=some x→(l.take i).any (fun y=>sameO y x)=false
def og (x:Kbb):Kbd:=⟨x.Server,x.No⟩
theorem og_eq (x y:Kbb):(og y==og x)=sameO x y:=by
 rw [Bool.eq_iff_iff]
 unfold og sameO
 simp only [beq_iff_eq,Kbd.mk.injEq,Bool.and_eq_true]
 exact ⟨fun h=>⟨h.1.symm,h.2.symm⟩,fun h=>⟨h.1.symm,h.2.symm⟩⟩
theorem ord_ok (a b:Kbb):∃ c,Kcb a b=some c:=by
 unfold Kcb Kal
 rw [cmpInt_ok,cmpInt_ok]
 simp only [bi_some]
 obtain ⟨c,h,_⟩:=orInt_ok (cmpI a.At b.At) [Lib.compareBytes a.Server b.Server,cmpI a.No b.No]
 rw [h]
 exact ⟨_,rfl⟩
theorem contF_ok (l:List Kbb) (x:Kbb):Kcw l x=some (l.any fun y=>sameO y x):=by
 unfold Kcw Kcv
 rw [bi_rangeM_ix (fun y=>sameO y x) l (fun j y _=>by unfold Kcu sameO; cases ((y.Server:Str)==x.Server)<;>cases ((y.No:Int)==x.No)<;>rfl),bi_some,ixZ_ge]
theorem take_succ {α:Type} {l:List α} {i:Nat} {x:α} (h:l[i]?=some x):l.take (i+1)=l.take i++[x]:=by
 rw [List.take_add_one,h]; rfl
theorem prev_two {l:List Kbb} {i:Nat} {x:Kbb} (hx:l[i]?=some x) (hl:l.length≤100000):∃ b,
  (bif decide (((i:Int):Int)>0) then (bi (getZ l (wi ((i:Int) - 1))) fun x23=>bi (Kdp x23 x) fun y25=>some (decide ((y25:Int)≥0))) else (some false))=some b∧
  (bif decide (((i:Int):Int)>0) then (bi (getZ l (wi ((i:Int) - 1))) fun x23=>bi (Kcb x23 x) fun y25=>some (decide ((y25:Int)≥0))) else (some false))=some b:=by
 have e:Kdp=Kcb:=rfl
 rw [e]
 obtain ⟨b,h,_⟩:=prev_o (g:=fun x23=>bi (Kcb x23 x) fun y25=>some (decide ((y25:Int)≥0))) hx hl fun y=>by
  obtain ⟨c,hc⟩:=ord_ok y x
  rw [hc]
  exact ok_some trivial
 exact ⟨b,h,h⟩
theorem log_two {l:List Kbb} (h:∀ x∈l,StepOk x) (hl:l.length≤1000):∃ e,Kdr 400 l=some e∧Kcx l=some e∧(e=0→Once l):=by
 have key:Two (Kdr 400 l) (Kcx l) fun a b=>a=b∧(b=0→Once l):=by
  unfold Kdr Kcx
  rw [decide_eq_false (show ¬ ((l.length:Int)>2000) by omega)]
  simp only [cond_false]
  refine two_bi (two_rangeM (fun i (s:List (Kbd×Bool)) (_:Unit)=>(∀ y,(mGet s (og y)).getD false=(l.take i).any fun z=>sameO z y)∧∀ (j:Nat) x,j<i→l[j]?=some x→(l.take j).any (fun y=>sameO y x)=false) (fun a b=>a=b∧b≠0) ⟨fun y=>by simp [mGet],fun j x hj=>absurd hj (by omega)⟩ fun i x s t hx hI=>?_) fun r q hr=>?_
  ·obtain ⟨e,h1,h2⟩:=form_two (h x (List.mem_of_getElem? hx))
   rw [h1,h2,bi_some,bi_some]
   refine two_bif rfl (fun he=>two_some ⟨rfl,by simpa using he⟩) fun _=>?_
   obtain ⟨b,h3,h4⟩:=prev_two hx (by omega)
   have hi:i<l.length:=(List.getElem?_eq_some_iff.1 hx).1
   rw [h3,h4,bi_some,bi_some]
   refine two_bif rfl (fun he=>two_some ⟨rfl,by decide⟩) fun _=>?_
   rw [show subZ l 0 (i:Int)=some (l.take i) from (subZ_cast (i:=0) (Nat.zero_le _) (by omega)).trans rfl]
   refine two_re rfl ?_
   refine two_re (contF_ok _ _) ?_
   show Two (bif (mGet s (og x)).getD false then _ else some (LS.go (mSet s (og x) true))) _ _
   refine two_bif (hI.1 x) (fun he=>two_some ⟨rfl,by decide⟩) fun he=>two_some ⟨fun y=>?_,fun j z hj hz=>?_⟩
   ·rw [gGet_set,og_eq,take_succ hx,List.any_append]
    simp only [List.any_cons,List.any_nil,Bool.or_false]
    cases hs:sameO x y with
    | true=>simp
    | false=>simpa using hI.1 y
   ·by_cases hji:j=i
    ·subst hji
     rw [hx] at hz; cases hz
     rw [hI.1 x] at he; exact he
    ·exact hI.2 j z (by omega) hz
  ·cases r with
   | out a=>
    cases q with
    | out b=>exact two_some ⟨hr.1,fun h0=>absurd h0 hr.2⟩
    | go t=>exact hr.elim
   | go s=>
    cases q with
    | out b=>exact hr.elim
    | go t=>exact two_some ⟨rfl,fun _ i x hx=>hr.2 i x (List.getElem?_eq_some_iff.1 hx).1 hx⟩
 obtain ⟨a,b,h1,h2,rfl,h3⟩:=key
 exact ⟨a,h1,h2,h3⟩
end Go.Gk
