import Derived.Test.YtmecneoeklldeaaGreatDoorCNum
set_option linter.all false
set_option maxRecDepth 100000
namespace Go.Gk
inductive CC where
 | mk (Kind:Int) (Name Op:Str) (Value:Kuq) (Kids:List CC)
mutual
def CC.t:CC→Kur
 | .mk k n o v l=>⟨k,n,o,v,pk Kus (CC.ts l)⟩
def CC.ts:List CC→List Kur
 | []=>[]
 | c :: r=>c.t :: CC.ts r
end
def CC.kids:CC→List CC
 | .mk _ _ _ _ l=>l
theorem Kaa:∀ l:List CC,CC.ts l=l.map CC.t
 | []=>by simp[CC.ts]
 | c :: r=>by simp[CC.ts,Kaa r]
theorem Kab(c:CC):unK d_api_Cond 11 c.t.Kids=some (c.kids.map CC.t):=by
 cases c with
 | mk k n o v l=>
  simp only[CC.t,CC.kids,Kaa]
  exact Kne Kxv (fun _=>rfl) _
mutual
def CC.dp:CC→Nat
 | .mk _ _ _ _ l=>CC.dps l+1
def CC.dps:List CC→Nat
 | []=>0
 | c :: r=>max c.dp (CC.dps r)
end
theorem Kac:∀ (l:List CC) (x:CC),x∈l→x.dp≤CC.dps l
 | c :: r,x,h=>by
  simp only[CC.dps]
  rcases List.mem_cons.1 h with rfl | h
  ·exact Nat.le_max_left _ _
  exact Nat.le_trans (Kac r x h) (Nat.le_max_right _ _)
theorem Kad{c x:CC}(h:x∈c.kids):x.dp<c.dp:=by
 cases c with
 | mk k n o v l=>
  have:=Kac l x h
  simp only[CC.dp]
  omega
theorem Lba{fL fD:Nat→Kur→Int→Option Int}{fS:Nat→Kur→Int×Int→Option (Int×Int)}:∀ (l:List CC)
  (h:∀ x∈l,∃ n d,∀ i (a b:Int),fL i x.t a=some (wi (a+n))∧fD i x.t b=some (if d>b then d else b)∧fS i x.t (a,b)=some (wi (a+n),if d>b then d else b)) (i:Nat) (a b:Int),
  ∃ a' b',rangeF fL i (l.map CC.t) a=some a'∧rangeF fD i (l.map CC.t) b=some b'∧rangeF fS i (l.map CC.t) (a,b)=some (a',b')
 | [],_,i,a,b=>⟨a,b,rfl,rfl,rfl⟩
 | x :: l,h,i,a,b=>by
  obtain⟨n,d,hx⟩:=h x mCs
  obtain⟨h1,h2,h3⟩:=hx i a b
  obtain⟨a',b',e1,e2,e3⟩:=Lba l (fun y hy=>h y (mCo _ hy)) (i+1) (wi (a+n)) (if d>b then d else b)
  exact⟨a',b',by simp only[List.map_cons,rangeF,h1,bi_some,e1],by simp only[List.map_cons,rangeF,h2,bi_some,e2],by simp only[List.map_cons,rangeF,h3,bi_some,e3]⟩
theorem Kae:∀ (k:Nat) (c:CC),c.dp<k→∃ n d,Kwf k c.t=some n∧Kwg k c.t=some d∧Kvh k c.t=some (n,d)
 | 0,c,h=>absurd h (Nat.not_lt_zero _)
 | k+1,c,h=>by
  have hk:∀ x∈c.kids,∃ n d,Kwf k x.t=some n∧Kwg k x.t=some d∧Kvh k x.t=some (n,d):=fun x hx=>Kae k x (by have:=Kad hx;omega)
  obtain⟨q,hq⟩:∃ q:Int,(bif (c.t.Kind:Int)==1 then(some 1) else(some 0):Option Int)=some q:=by cases (c.t.Kind:Int)==1<;>exact⟨_,rfl⟩
  obtain⟨a',b',e1,e2,e3⟩:=Lba (fL:=fun i7 x9 s8=>bi (Kwf k x9) fun y18=>some (wi (s8+y18))) (fD:=fun i3 x5 s4=>bi (Kwg k x5) fun y14=>some (if y14>s4 then y14 else s4))
   (fS:=fun i7 x9 s8=>bi (Kvh k x9) fun y18=>some (wi (s8.1+y18.1),(if y18.2>s8.2 then y18.2 else s8.2))) c.kids (fun x hx=>by
    obtain⟨n,d,h1,h2,h3⟩:=hk x hx
    exact⟨n,d,fun i a b=>⟨by rw[h1];rfl,by rw[h2];rfl,by rw[h3];rfl⟩⟩) 0 q 0
  refine⟨a',wi (b'+1),?_,?_,?_⟩
  ·simp only[Kwf,hq,bi_some,Kab]
   rw[e1];rfl
  ·simp only[Kwg,bi_some,Kab]
   rw[e2];rfl
  simp only[Kvh,hq,bi_some,Kab]
  rw[e3];rfl
def wB(c:UInt8):Bool:=decide (32≤c.toNat)&&decide (c.toNat≤126)
theorem Kaf{L:List Int}(hL:L.length=4){p:Int→Bool}{e:Int}{f:Int→Option (LS Int (Unit ⊕ Int))}(hf:∀ (i:Nat) (x:Int),L[i]?=some x→f (i:Int)=some (if p x then .out (.inr e) else .go ((i+1:Nat):Int)))(hend:f 4=some (.out (.inl ()))) :
  ∀ (n k i:Nat),n=4 - i→i≤4→n<k→loopM f k (i:Int)=some (if (L.drop i).any p then .inr e else .inl ())
 | n,0,i,_,_,h=>absurd h (Nat.not_lt_zero _)
 | n,k+1,i,hn,hi,hk=>by
  by_cases he:i<4
  ·have hx:L[i]?=some L[i]:=gGe (by omega)
   have hdr:L.drop i=L[i] :: L.drop (i+1):=List.drop_eq_getElem_cons (by omega)
   have hs:=hf i _ hx
   rw[hdr,List.any_cons]
   cases hp:p L[i] with
   | true=>rw[hp] at hs;exact Kds _ hs
   | false=>
    rw[hp] at hs
    rw[Kdr _ hs,Bool.false_or]
    exact Kaf hL hf hend (n - 1) k (i+1) (by omega) (by omega) (by omega)
  ·obtain rfl:i=4:=by omega
   rw[List.drop_eq_nil_of_le (by omega)]
   exact Kds _ hend
theorem Kag(s:Str)(h:s.length≤50000):Kvt s=some (s.all wB&&decide (s.length≤100)):=by
 unfold Kvt
 rw[dT (show(s.length:Int)≤9223372036854775807 by omega)]
 simp only[gd,cond_true]
 rw[Ktz (p:=wB) (v:=false) s (fun i x hx=>by
  rw[Kuh hx]
  simp only[bi_some]
  unfold wB
  by_cases h1:32≤x.toNat
  ·rw[dF (show ¬ (x.toNat:Int)<32 by omega),dT h1]
   simp only[cond_false,bi_some,Bool.true_and]
   by_cases h2:x.toNat≤126
   ·rw[dF (show ¬ (x.toNat:Int)>126 by omega),dT h2];rfl
   rw[dT (show(x.toNat:Int)>126 by omega),dF h2];rfl
  rw[dT (show(x.toNat:Int)<32 by omega),dF h1];rfl)]
 cases s.all wB with
 | false=>rfl
 | true=>
  show some (decide ((s.length:Int)≤100))=_
  rw[Bool.true_and]
  congr 1
  refine decide_eq_decide.2 ?_
  omega
theorem bbif{α:Type}(b c d:Bool):(bif b then(some c:Option Bool) else some d)=some (bif b then c else d):=by cases b<;>rfl
theorem Kah(a:Str)(h:a.length≤50000):rangeI (σ:=Unit) (ρ:=Int) (fun i27 s28=>bi (getZ a (i27:Int)) fun c39=>bi (Kwh (wi ((c39.toNat:Int))) 32 126) fun y41=>bif !y41 then(bi (some 3) fun v=>some (.out v)) else(some (.go ()))) (a.length:Int) ()=some (if a.all wB then .go () else .out 3):=
 Ktz (p:=wB) (v:=3) a (fun i x hx=>by
  have hx2:=x.toNat_lt
  rw[Kuh hx]
  simp only[bi_some,Kwh]
  rw[Ktr (by omega) (by omega)]
  unfold wB
  rw[show decide ((32:Int)≤(x.toNat:Int))=decide (32≤x.toNat) from decide_eq_decide.2 (by omega),show decide ((x.toNat:Int)≤126)=decide (x.toNat≤126) from decide_eq_decide.2 (by omega)]
  cases (decide (32≤x.toNat)&&decide (x.toNat≤126))<;>rfl)
def vL(a:Kuq):List Int:=[a.Version.1,a.Version.2.1,a.Version.2.2.1,a.Version.2.2.2]
theorem verP(k:Nat)(hk:10<k)(a:Kuq):loopM (σ:=Int) (ρ:=Unit ⊕ Int) (fun s34=>bif decide ((s34:Int)<4) then(bi (getZ ([a.Version.1,a.Version.2.1,a.Version.2.2.1,a.Version.2.2.2]:List Int) s34) fun x44=>bi (bif (a.Kind:Int)==4 then(bi (Kvi x44 0 1000000) fun y49=>some y49) else(some false)) fun q46=>bif q46 then(bi (some 1) fun v=>some (.out (.inr v))) else(bif (((a.Kind:Int) != 4)&&((x44:Int) != 0)) then(bi (some 3) fun v=>some (.out (.inr v))) else(some (.go (wi (s34+1)))))) else(some (.out (.inl ())))) k 0 =
  some (if (vL a).any (fun x=>bif (a.Kind:Int)==4 then decide (x<0)||decide (x>1000000) else x != 0) then .inr (bif (a.Kind:Int)==4 then 1 else 3) else .inl ()):=by
 refine(Kaf (L:=vL a) rfl (p:=fun x=>bif (a.Kind:Int)==4 then decide (x<0)||decide (x>1000000) else x != 0) (e:=bif (a.Kind:Int)==4 then 1 else 3) (fun i x hx=>?_) ?_ 4 k 0 rfl (by decide) (by omega)).trans (congrArg (fun l=>some (if List.any l _=true then _ else _)) List.drop_zero)
 ·have hi:i<4:=(gEs.1 hx).1
  rw[dT (show(i:Int)<4 by omega),cond_true,show getZ ([a.Version.1,a.Version.2.1,a.Version.2.2.1,a.Version.2.2.2]:List Int) (i:Int)=some x from Kuh hx]
  simp only[bi_some,Kvi]
  rw[Ktr (by omega) (by omega)]
  cases hK:(a.Kind:Int)==4 with
  | true=>
   simp only[cond_true,bi_some]
   have:((a.Kind:Int) != 4)=false:=by simp[bne,hK]
   rw[this]
   cases (decide (x<0)||decide (x>1000000))<;>rfl
  | false=>
   have:((a.Kind:Int) != 4)=true:=by simp[bne,hK]
   simp only[cond_false,bi_some,this,Bool.true_and]
   cases (x != 0)<;>rfl
 ·rfl
theorem verR(k:Nat)(hk:10<k)(a:Kuq):loopM (σ:=Int) (ρ:=Unit ⊕ Int) (fun s48=>bif decide ((s48:Int)<4) then(bi (getZ ([a.Version.1,a.Version.2.1,a.Version.2.2.1,a.Version.2.2.2]:List Int) s48) fun x58=>bi (bif (a.Kind:Int)==4 then(bi (Kwh x58 0 1000000) fun y63=>some (!y63)) else(some false)) fun q60=>bif q60 then(bi (some 1) fun v=>some (.out (.inr v))) else(some (.go (wi (s48+1))))) else(some (.out (.inl ())))) k 0 =
  some (if (vL a).any (fun x=>bif (a.Kind:Int)==4 then decide (x<0)||decide (x>1000000) else false) then .inr 1 else .inl ()):=by
 refine(Kaf (L:=vL a) rfl (p:=fun x=>bif (a.Kind:Int)==4 then decide (x<0)||decide (x>1000000) else false) (e:=1) (fun i x hx=>?_) ?_ 4 k 0 rfl (by decide) (by omega)).trans (congrArg (fun l=>some (if List.any l _=true then _ else _)) List.drop_zero)
 ·have hi:i<4:=(gEs.1 hx).1
  rw[dT (show(i:Int)<4 by omega),cond_true,show getZ ([a.Version.1,a.Version.2.1,a.Version.2.2.1,a.Version.2.2.2]:List Int) (i:Int)=some x from Kuh hx]
  simp only[bi_some,Kwh]
  rw[Ktr (by omega) (by omega)]
  cases hK:(a.Kind:Int)==4 with
  | true=>
   simp only[cond_true,bi_some]
   have hxx:(!(decide ((0:Int)≤x)&&decide (x≤1000000)))=(decide (x<0)||decide (x>1000000)):=by
    by_cases h1:(0:Int)≤x<;>by_cases h2:x≤1000000<;>simp[h1,h2]<;>omega
   rw[hxx]
   cases (decide (x<0)||decide (x>1000000))<;>rfl
  | false=>rfl
 ·rfl
theorem Kai(a:Kuq):(vL a).any (fun x=>x != 0)=!decide (([a.Version.1,a.Version.2.1,a.Version.2.2.1,a.Version.2.2.2]:List Int)=([0,0,0,0]:List Int)):=by
 unfold vL
 rw[Bool.eq_iff_iff]
 simp
theorem Kaj(k:Nat)(hk:10<k)(a:Kuq)(hw:a.Words.length≤50000):∃ e,Kvu k a=some e∧Kwp k a=some e:=by
 unfold Kvu Kwp
 rw[Kag a.Words hw,Kah a.Words hw,verP k hk a,verR k hk a,dT (show(a.Words.length:Int)≤9223372036854775807 by omega)]
 obtain⟨c1,h1,h1'⟩:=Kua a.Kind 1 4
 rw[h1,h1']
 simp only[bi_some]
 cases c1 with
 | true=>exact⟨4,rfl,rfl⟩
 | false=>
  simp only[cond_false,Bool.not_false,Bool.not_true]
  obtain⟨c2,h2,h2'⟩:=Kua a.Number (-100000000) 100000000
  obtain⟨c3,h3,h3'⟩:=Kua a.Number 0 1
  rw[h2,h2',h3,h3']
  simp only[bi_some,Bool.not_not,bbif (α:=Bool)]
  cases hq:(bif bif (a.Kind:Int)==1 then c2 else false then true else bif (a.Kind:Int)==3 then c3 else false) with
  | true=>exact⟨1,rfl,rfl⟩
  | false=>
   simp only[cond_false]
   cases hn:((((a.Kind:Int) != 1)&&((a.Kind:Int) != 3))&&((a.Number:Int) != 0)) with
   | true=>exact⟨3,rfl,rfl⟩
   | false=>
    simp only[cond_false]
    simp only[gd,cond_true,bi_some,bbif (α:=Bool)]
    by_cases hl:a.Words.length≤100
    ·rw[dT hl,dF (show ¬ (a.Words.length:Int)>100 by omega)]
     cases hK2:(a.Kind:Int)==2 with
     | true=>
      have hb:((a.Kind:Int) != 2)=false:=by simp[bne,hK2]
      have hK4:((a.Kind:Int)==4)=false:=by
       have:=eq_of_beq hK2;rw[this];rfl
      have hb4:((a.Kind:Int) != 4)=true:=by simp[bne,hK4]
      rw[hb,hK4,hb4]
      simp only[Bool.false_and,Bool.or_false,cond_true,cond_false,Bool.and_true,Bool.true_and]
      cases hall:a.Words.all wB with
      | false=>exact⟨3,rfl,rfl⟩
      | true=>
       simp only[Bool.not_true,cond_false,if_true,bi_some,goI,orI]
       rw[Kai]
       cases decide (([a.Version.1,a.Version.2.1,a.Version.2.2.1,a.Version.2.2.2]:List Int)=([0,0,0,0]:List Int)) with
       | true=>exact⟨0,by simp[orI],by simp[orI]⟩
       | false=>exact⟨3,by simp[orI],by simp[orI]⟩
     | false=>
      have hb:((a.Kind:Int) != 2)=true:=by simp[bne,hK2]
      rw[hb]
      simp only[cond_false,Bool.false_or,Bool.true_and,Bool.or_false]
      cases hE:((a.Words:Str)==[]) with
      | false=>exact⟨3,rfl,rfl⟩
      | true=>
       have:a.Words=[]:=eq_of_beq hE
       rw[this]
       simp only[Bool.not_true,cond_false,List.all_nil,if_true,bi_some,goI,orI]
       cases hK4:(a.Kind:Int)==4 with
       | true=>
        have hb4:((a.Kind:Int) != 4)=false:=by simp[bne,hK4]
        rw[hb4]
        simp only[cond_true,Bool.false_and,cond_false]
        by_cases hv:((vL a).any fun x=>decide (x<0)||decide (x>1000000))=true
        ·exact⟨1,by rw[if_pos hv],by rw[if_pos hv]⟩
        exact⟨0,by rw[if_neg hv],by rw[if_neg hv]⟩
       | false=>
        have hb4:((a.Kind:Int) != 4)=true:=by simp[bne,hK4]
        rw[hb4]
        simp only[cond_false,Bool.true_and]
        rw[Kai]
        cases decide (([a.Version.1,a.Version.2.1,a.Version.2.2.1,a.Version.2.2.2]:List Int)=([0,0,0,0]:List Int)) with
        | true=>exact⟨0,by simp[orI],by simp[orI]⟩
        | false=>exact⟨3,by simp[orI],by simp[orI]⟩
    rw[dF hl,dT (show(a.Words.length:Int)>100 by omega)]
    refine⟨3,?_,by simp⟩
    have hne:((a.Words:Str)==[])=false:=by
     cases hh:a.Words with
     | nil=>rw[hh] at hl;simp at hl
     | cons x y=>rfl
    rw[hne]
    cases hK2:(a.Kind:Int)==2 with
    | true=>simp[bne,hK2]
    | false=>simp[bne,hK2]
theorem Kak{α:Type}{f:Nat→α→Unit→Option (LS Unit Int)}(p:α→Bool)(hf:∀ i x,f i x ()=some (if p x then .out (i:Int) else .go ())):∀ (l:List α) (i:Nat),(l.any p=false∧rangeM f i l ()=some (.go ()))∨(l.any p=true∧∃ v:Int,0≤v∧rangeM f i l ()=some (.out v))
 | [],i=>.inl ⟨rfl,rfl⟩
 | x :: l,i=>by
  have h0:=hf i x
  cases hp:p x with
  | true=>
   rw[hp] at h0
   exact .inr ⟨by simp[hp],i,by omega,by simp only[rangeM,h0,if_true]⟩
  | false=>
   rw[hp] at h0
   rcases Kak p hf l (i+1) with⟨h1,h2⟩ | ⟨h1,v,h2,h3⟩
   ·exact .inl ⟨by simp[hp,h1],by simp only[rangeM,h0];exact h2⟩
   exact .inr ⟨by simp[hp,h1],v,h2,by simp only[rangeM,h0];exact h3⟩
theorem Lbb(l:List Kur)(c:Kur):Kvl l c=some (l.any fun x=>(x.Kind:Int)==c.Kind):=by
 unfold Kvl Kvk Kvj
 rcases Kak (f:=fun i1 x3 s2=>bi (some ((x3.Kind:Int)==c.Kind)) fun y12=>bif y12 then(bi (some (i1:Int)) fun v=>some (.out v)) else(some (.go ()))) (fun x=>(x.Kind:Int)==c.Kind) (fun i x=>by cases h:((x.Kind:Int)==c.Kind)<;>rfl) l 0 with⟨h1,h2⟩ | ⟨h1,v,h2,h3⟩
 ·rw[h2,h1];rfl
 rw[h3,h1]
 show some (decide (v≥0))=_
 rw[dT h2]
theorem Lbc(l:List Kur)(c:Kur):Kwk l c=some (l.any fun x=>(x.Kind:Int)==c.Kind):=by
 unfold Kwk Kwj Kwi
 rcases Kak (f:=fun i1 x3 s2=>bi (some ((x3.Kind:Int)==c.Kind)) fun y12=>bif y12 then(bi (some (i1:Int)) fun v=>some (.out v)) else(some (.go ()))) (fun x=>(x.Kind:Int)==c.Kind) (fun i x=>by cases h:((x.Kind:Int)==c.Kind)<;>rfl) l 0 with⟨h1,h2⟩ | ⟨h1,v,h2,h3⟩
 ·rw[h2,h1];rfl
 rw[h3,h1]
 show some (decide (v≥0))=_
 rw[dT h2]
def opsB(s:Str):Bool:=[[61,61],[33,61],[60],[60,61],[62],[62,61]].any fun x=>(s:Str)==x
theorem Lbd(l:List Str)(s:Str):Kvr l s=some (l.any fun x=>(s:Str)==x):=by
 unfold Kvr Kvq
 rcases Kak (f:=fun i1 (x3:Str) s2=>bif (s:Str)==x3 then(bi (some (i1:Int)) fun v=>some (.out v)) else(some (.go ()))) (fun x=>(s:Str)==x) (fun i x=>by cases h:((s:Str)==x)<;>rfl) l 0 with⟨h1,h2⟩ | ⟨h1,v,h2,h3⟩
 ·rw[h2,h1];rfl
 rw[h3,h1]
 show some (decide (v≥0))=_
 rw[dT h2]
theorem Kal(s:Str):Kvs s=some (opsB s):=by
 unfold Kvs
 rw[Lbd];rfl
def verB(s:Str):Bool:=match s with
 | c :: d :: _=>(c==118)&&isD d
 | _=>false
theorem Kam(c:UInt8):Kvo (c.toNat:Int)=some (isD c):=by
 unfold Kvo isD
 congr 2
 ·exact decide_eq_decide.2 (by omega)
 exact decide_eq_decide.2 (by omega)
theorem Kan(c:UInt8)(n:Nat)(hn:n<256):((c.toNat:Int)==(n:Int))=(c==UInt8.ofNat n):=by
 rw[Bool.eq_iff_iff]
 simp only[beq_iff_eq]
 constructor
 ·intro h
  apply UInt8.toNat_inj.1
  rw[UInt8.toNat_ofNat']
  omega
 intro h;subst h
 rw[UInt8.toNat_ofNat']
 omega
theorem Kao(s:Str):Kvp s=some (verB s):=by
 unfold Kvp
 match s with
 | []=>rfl
 | [c]=>rfl
 | c :: d :: r=>
  rw[dT (show(((c :: d :: r).length:Int):Int)>1 by simp;omega)]
  have e0:getZ (c :: d :: r) 0=some c:=rfl
  have e1:getZ (c :: d :: r) 1=some d:=rfl
  simp only[cond_true,e0,e1,bi_some,Kam]
  rw[show((c.toNat:Int)==118)=(c==118) from Kan c 118 (by decide),show verB (c :: d :: r)=((c==118)&&isD d) from rfl]
  cases c==118<;>rfl
theorem Kap(s:Str)(hs:s.length≤50000):Kwo s=some (keyB s&&!((s:Str)==[116,114,117,101])&&!((s:Str)==[102,97,108,115,101])&&!verB s):=by
 unfold Kwo
 rw[keyR s hs]
 simp only[bi_some]
 cases h:(keyB s&&!((s:Str)==[116,114,117,101])&&!((s:Str)==[102,97,108,115,101])) with
 | false=>rfl
 | true=>
  simp only[cond_true,Bool.true_and]
  match s,h with
  | [],h=>exact absurd h (by decide)
  | [c],h=>
   have e0:getZ [c] 0=some c:=rfl
   rw[e0]
   simp only[bi_some]
   rw[show decide ((([c].length:Int):Int)>1)=false from rfl,Bool.and_false]
   rfl
  | c :: d :: r,h=>
   have e0:getZ (c :: d :: r) 0=some c:=rfl
   have e1:getZ (c :: d :: r) 1=some d:=rfl
   rw[e0,e1]
   simp only[bi_some]
   rw[dT (show(((c :: d :: r).length:Int):Int)>1 by simp;omega),show((c.toNat:Int)==118)=(c==118) from Kan c 118 (by decide),show decide ((d.toNat:Int)≥48)=decide (48≤d.toNat) from decide_eq_decide.2 (by omega),show decide ((d.toNat:Int)≤57)=decide (d.toNat≤57) from decide_eq_decide.2 (by omega),Bool.and_true]
   rw[show verB (c :: d :: r)=((c==118)&&(decide (48≤d.toNat)&&decide (d.toNat≤57))) from rfl]
   cases c==118 with
   | false=>rfl
   | true=>
    simp only[cond_true,bi_some,Bool.true_and]
    cases decide (48≤d.toNat)<;>rfl
inductive CC.Gd:CC→Prop
 | mk {k:Int} {n o:Str} {v:Kuq} {l:List CC} (h1:n.length≤50000) (h2:v.Words.length≤50000) (h3:∀ x∈l,x.Gd):CC.Gd (.mk k n o v l)
def zA:Kuq:=⟨0,0,[],(0,0,0,0)⟩
def kidsP(k:Nat)(l42:List Kur):Option Int:=bi (rangeM (σ:=Unit) (ρ:=Int) (fun i44 x46 s45=>bi (Kvv k x46) fun y55=>bif (y55:Int) != 0 then(bi (some y55) fun v=>some (.out v)) else(some (.go ()))) 0 l42 ()) fun q=>goI q fun a49=>some 0
def leafP(k:Nat)(c:Kur):Option (Unit ⊕ Int):=bif (c.Kind:Int)==1 then(bi (Kvn k c.Name) fun y13=>bi (bif (((!y13)||((c.Name:Str)==[116,114,117,101]))||((c.Name:Str)==[102,97,108,115,101])) then(some true) else(bi (Kvp c.Name) fun y19=>some y19)) fun q15=>bif q15 then(bi (some 5) fun v=>some (.inr v)) else(bi (Kvs c.Op) fun y25=>bif !y25 then(bi (some 10) fun v=>some (.inr v)) else(bi (Kvu k c.Value) fun y31=>bif (y31:Int) != 0 then(bi (some y31) fun v=>some (.inr v)) else(bif ((((c.Value.Kind:Int)==3)&&(!((c.Op:Str)==[61,61])))&&(!((c.Op:Str)==[33,61]))) then(bi (some 10) fun v=>some (.inr v)) else(some (.inl ())))))) else(some (.inl ()))
theorem Kaq(k:Nat)(c:Kur):Kvv (k+1) c=bi (Kvi c.Kind 1 4) fun y1=>bif y1 then(some 4) else(bi (Kvm c) fun y5=>bif !y5 then(some 3) else(bi (leafP k c) fun q=>orI q fun a11=>bi (unK d_api_Cond 11 c.Kids) fun l42=>kidsP k l42)):=rfl
def nameB(s:Str):Bool:=keyB s&&!((s:Str)==[116,114,117,101])&&!((s:Str)==[102,97,108,115,101])&&!verB s
def leafE(c:Kur)(ea:Int):Int:=bif !nameB c.Name then 5 else bif !opsB c.Op then 10 else bif (ea:Int) != 0 then ea else bif ((((c.Value.Kind:Int)==3)&&(!((c.Op:Str)==[61,61])))&&(!((c.Op:Str)==[33,61]))) then 10 else 0
theorem Kar(k:Nat)(hk:50010<k)(c:Kur)(ea:Int)(h1:c.Name.length≤50000)(ha:Kvu k c.Value=some ea):leafP k c=some (bif (c.Kind:Int)==1 then(if leafE c ea=0 then .inl () else .inr (leafE c ea)) else .inl ()):=by
 unfold leafP leafE nameB
 cases (c.Kind:Int)==1 with
 | false=>rfl
 | true=>
  simp only[cond_true]
  rw[keyP k c.Name h1 (by omega),Kao,Kal,ha]
  simp only[bi_some]
  cases keyB c.Name with
  | false=>rfl
  | true=>
   cases ((c.Name:Str)==[116,114,117,101]) with
   | true=>rfl
   | false=>
    cases ((c.Name:Str)==[102,97,108,115,101]) with
    | true=>rfl
    | false=>
     cases verB c.Name with
     | true=>rfl
     | false=>
      cases opsB c.Op with
      | false=>rfl
      | true=>
       cases hea:((ea:Int) != 0) with
       | true=>
        have:ea≠0:=by simpa using hea
        simp only[Bool.not_true,Bool.not_false,Bool.or_self,cond_false,cond_true,bi_some,Bool.and_self,if_neg this]
       | false=>
        cases ((((c.Value.Kind:Int)==3)&&(!((c.Op:Str)==[61,61])))&&(!((c.Op:Str)==[33,61])))<;>rfl
def restB(c:Kur):Bool:=(((c.Name:Str)==[])&&((c.Op:Str)==[]))&&(((c.Value.Kind:Int)==0)&&(((c.Value.Number:Int)==0)&&(((c.Value.Words:Str)==[])&&(decide (([c.Value.Version.1,c.Value.Version.2.1,c.Value.Version.2.2.1,c.Value.Version.2.2.2]:List Int)=[0,0,0,0])&&true))))
def formB(c:Kur)(L:List Kur):Bool:=bif (c.Kind:Int)==1 then((L.length:Int):Int)==0 else(bif (c.Kind:Int)==2 then !(((L.length:Int):Int) != 1) else !(decide (((L.length:Int):Int)<2))&&!(L.any fun x=>(x.Kind:Int)==c.Kind))&&restB c
theorem Kas(c:Kur)(L:List Kur)(hu:unK d_api_Cond 11 c.Kids=some L):Kvm c=some (formB c L):=by
 unfold Kvm formB
 rw[hu]
 simp only[bi_some,Lbb]
 cases (c.Kind:Int)==1 with
 | true=>rfl
 | false=>
  cases (c.Kind:Int)==2 with
  | true=>cases (((L.length:Int):Int) != 1)<;>rfl
  | false=>
   cases (decide (((L.length:Int):Int)<2)) with
   | true=>rfl
   | false=>cases (L.any fun x=>(x.Kind:Int)==c.Kind)<;>rfl
theorem Lbe(a b d:Bool):(((!a)||(!b))||(!d))=!((a&&b)&&d):=by cases a<;>cases b<;>cases d<;>rfl
theorem Kat(k:Nat)(hk:50010<k)(c:Kur)(L:List Kur)(hu:unK d_api_Cond 11 c.Kids=some L)(h1:c.Name.length≤50000)(h2:c.Value.Words.length≤50000) :
  ∃ e:Int,Kwq k c=some e∧Kvv (k+1) c=if e=0 then kidsP k L else some e:=by
 obtain⟨ea,hP,hR⟩:=Kaj k (by omega) c.Value h2
 rw[Kaq,Kas c L hu,Kar k hk c ea h1 hP,hu]
 unfold Kwq
 obtain⟨c1,o1,o2⟩:=Kua c.Kind 1 4
 rw[o1,o2,hu,Kap c.Name h1,hR]
 simp only[bi_some,Lbc,show Kva=some [[61,61],[33,61],[60],[60,61],[62],[62,61]] from rfl,Lbd]
 cases c1 with
 | true=>exact⟨4,rfl,rfl⟩
 | false=>
  have h14:1≤c.Kind∧c.Kind≤4:=by
   unfold Kvi at o1
   have:=oSi o1
   simp at this
   omega
  simp only[cond_false,Bool.not_false,Bool.not_true]
  unfold formB
  cases hK1:((c.Kind:Int)==1) with
  | true=>
   have hK:=eq_of_beq hK1
   have hK2:((c.Kind:Int)==2)=false:=by rw[hK];rfl
   have hn2:((c.Kind:Int) != 2)=true:=by rw[hK];rfl
   have hK3:((c.Kind:Int)==3)=false:=by rw[hK];rfl
   have hK4:((c.Kind:Int)==4)=false:=by rw[hK];rfl
   rw[hK2,hn2,hK3,hK4]
   simp only[cond_true,cond_false,bi_some,Bool.not_true,Bool.false_and,Bool.or_self]
   by_cases hL:L.length=0
   ·rw[hL]
    simp only[bi_some,cond_false,cond_true,show decide (((0:Nat):Int)>0)=false from rfl,show((((0:Nat):Int):Int)==0)=true from rfl,Bool.not_true,goI,orI]
    refine⟨leafE c ea,?_,?_⟩
    ·unfold leafE nameB opsB
     cases (keyB c.Name&&!((c.Name:Str)==[116,114,117,101])&&!((c.Name:Str)==[102,97,108,115,101])&&!verB c.Name) with
     | false=>rfl
     | true=>
      cases ([[61,61],[33,61],[60],[60,61],[62],[62,61]].any fun x=>(c.Op:Str)==x) with
      | false=>rfl
      | true=>
       cases ((ea:Int) != 0) with
       | true=>rfl
       | false=>cases ((((c.Value.Kind:Int)==3)&&(!((c.Op:Str)==[61,61])))&&(!((c.Op:Str)==[33,61])))<;>rfl
    ·by_cases he:leafE c ea=0
     ·simp only[if_pos he,orI]
     ·simp only[if_neg he,orI]
   ·refine⟨3,?_,?_⟩
    ·rw[dT (show((L.length:Int):Int)>0 by omega)];rfl
    ·rw[show(((L.length:Int):Int)==0)=false by simpa using hL];rfl
  | false=>
   simp only[cond_false,bi_some,Bool.not_false,Bool.true_and,if_true,orI]
   rw[Lbe]
   rw[show((((c.Name:Str)==[])&&((c.Op:Str)==[]))&&(((c.Value.Kind:Int)==0)&&(((c.Value.Number:Int)==0)&&(((c.Value.Words:Str)==[])&&(decide (([c.Value.Version.1,c.Value.Version.2.1,c.Value.Version.2.2.1,c.Value.Version.2.2.2]:List Int)=[0,0,0,0])&&true)))))=restB c from rfl]
   cases hK2:((c.Kind:Int)==2) with
   | true=>
    have hK:=eq_of_beq hK2
    have hn2:((c.Kind:Int) != 2)=false:=by rw[hK];rfl
    have hK3:((c.Kind:Int)==3)=false:=by rw[hK];rfl
    have hK4:((c.Kind:Int)==4)=false:=by rw[hK];rfl
    rw[hn2,hK3,hK4]
    simp only[cond_true,cond_false,bi_some,Bool.or_self]
    cases (((L.length:Int):Int) != 1) with
    | true=>exact⟨3,rfl,rfl⟩
    | false=>
     cases restB c with
     | false=>exact⟨3,rfl,rfl⟩
     | true=>exact⟨0,rfl,rfl⟩
   | false=>
    have hn2:((c.Kind:Int) != 2)=true:=by simp[bne,hK2]
    have h34:(((c.Kind:Int)==3)||((c.Kind:Int)==4))=true:=by
     have a1:c.Kind≠1:=by simpa using hK1
     have a2:c.Kind≠2:=by simpa using hK2
     have:c.Kind=3∨c.Kind=4:=by omega
     rcases this with h | h<;>rw[h]<;>rfl
    rw[hn2,h34]
    simp only[cond_true,cond_false,bi_some]
    cases (decide (((L.length:Int):Int)<2)) with
    | true=>exact⟨3,rfl,rfl⟩
    | false=>
     cases restB c with
     | false=>
      cases (L.any fun x=>(x.Kind:Int)==c.Kind)<;>exact⟨3,rfl,rfl⟩
     | true=>
      cases (L.any fun x=>(x.Kind:Int)==c.Kind) with
      | true=>exact⟨3,rfl,rfl⟩
      | false=>exact⟨0,rfl,rfl⟩
theorem Lbf{f g:Nat→Kur→Unit→Option (LS Unit Int)}:∀ (l:List CC) (i:Nat) (h:∀ x∈l,∃ e:Int,∀ i,f i x.t ()=some (if e=0 then .go () else .out e)∧g i x.t ()=some (if e=0 then .go () else .out e)),
  ∃ r:LS Unit Int,rangeM f i (l.map CC.t) ()=some r∧rangeM g i (l.map CC.t) ()=some r
 | [],i,_=>⟨.go (),rfl,rfl⟩
 | x :: l,i,h=>by
  obtain⟨e,he⟩:=h x mCs
  obtain⟨h1,h2⟩:=he i
  by_cases h0:e=0
  ·rw[if_pos h0] at h1 h2
   obtain⟨r,e1,e2⟩:=Lbf l (i+1) fun y hy=>h y (mCo _ hy)
   exact⟨r,by simp only[List.map_cons,rangeM,h1];exact e1,by simp only[List.map_cons,rangeM,h2];exact e2⟩
  ·rw[if_neg h0] at h1 h2
   exact⟨.out e,by simp only[List.map_cons,rangeM,h1],by simp only[List.map_cons,rangeM,h2]⟩
theorem Kau:∀ (n k:Nat) (c:CC),c.Gd→c.dp≤n→n+50010<k→∃ e:Int,Kvv k c.t=some e∧Kwr k c.t=some e
 | 0,k,c,hg,hn,hk=>by cases c;simp[CC.dp] at hn
 | n+1,0,c,hg,hn,hk=>by omega
 | n+1,k+1,c,hg,hn,hk=>by
  have hu:=Kab c
  cases hg with
  | mk g1 g2 g3=>
   rename_i K nm op v l
   have hkid:∀ x∈l,∃ e:Int,Kvv k x.t=some e∧Kwr k x.t=some e:=fun x hx=>Kau n k x (g3 x hx) (by have:=Kad (c:=.mk K nm op v l) hx;omega) (by omega)
   obtain⟨e,e1,e2⟩:=Kat k (by omega) (CC.mk K nm op v l).t _ hu g1 g2
   rw[e2]
   simp only[Kwr]
   rw[e1,hu,bi_some]
   by_cases h0:e=0
   ·subst h0
    obtain⟨r,r1,r2⟩:=Lbf (f:=fun i44 x46 s45=>bi (Kvv k x46) fun y55=>bif (y55:Int) != 0 then(bi (some y55) fun v=>some (.out v)) else(some (.go ()))) (g:=fun i7 x9 s8=>bi (Kwr k x9) fun y18=>bif (y18:Int) != 0 then(bi (some y18) fun v=>some (.out v)) else(some (.go ()))) l 0 (fun x hx=>by
     obtain⟨e,h1,h2⟩:=hkid x hx
     refine⟨e,fun i=>?_⟩
     rw[h1,h2,bi_some,bi_some]
     by_cases he:e=0
     ·subst he;exact⟨rfl,rfl⟩
     rw[show((e:Int) != 0)=true by simpa using he,if_neg he];exact⟨rfl,rfl⟩)
    rw[if_pos rfl]
    unfold kidsP
    rw[show((0:Int) != 0)=false from rfl,cond_false,bi_some,show(CC.mk K nm op v l).kids=l from rfl,r1,r2]
    cases r with
    | go _=>exact⟨0,rfl,rfl⟩
    | out v=>exact⟨v,rfl,rfl⟩
   rw[if_neg h0,show((e:Int) != 0)=true by simpa using h0]
   exact⟨e,rfl,rfl⟩
theorem Kav(k:Nat)(c:CC)(hg:c.Gd)(hk:c.dp+50010<k):∃ e,Kvw k c.t=some e∧Kws k c.t=some e:=by
 obtain⟨n,d,s1,s2,s3⟩:=Kae k c (by omega)
 obtain⟨e,e1,e2⟩:=Kau c.dp k c hg (Nat.le_refl _) hk
 unfold Kvw Kws
 rw[s3,s1,s2,e1,e2]
 simp only[bi_some]
 cases decide ((n:Int)>100) with
 | true=>exact⟨2,rfl,rfl⟩
 | false=>
  cases hd:decide ((d:Int)>30) with
  | true=>exact⟨2,by simp,by simp⟩
  | false=>exact⟨e,by simp,by simp⟩
end Go.Gk
