import Derived.Test.YtmecneoeklldeaaGreatDoorCNum
set_option linter.all false
set_option maxRecDepth 100000
namespace Go.Gk
inductive CC where
 | mk (Kind:Int) (Name Op:Str) (Value:Kxc) (Kids:List CC)
mutual
def CC.t:CC→Kxi
 | .mk k n o v l=>⟨k,n,o,v,pk Kxj (CC.ts l)⟩
def CC.ts:List CC→List Kxi
 | []=>[]
 | c :: r=>c.t :: CC.ts r
end
def CC.kids:CC→List CC
 | .mk _ _ _ _ l=>l
mutual
def CC.dp:CC→Nat
 | .mk _ _ _ _ l=>CC.dps l+1
def CC.dps:List CC→Nat
 | []=>0
 | c :: r=>max c.dp (CC.dps r)
end
def wB(c:UInt8):Bool:=decide (32≤c.toNat)&&decide (c.toNat≤126)
theorem Kaj{L:List Int}(hL:L.length=4){p:Int→Bool}{e:Int}{f:Int→Option (LS Int (Unit ⊕ Int))}(hf:∀ (i:Nat) (x:Int),L[i]?=some x→f (i:Int)=some (if p x then .out (.inr e) else .go ((i+1:Nat):Int)))(hend:f 4=some (.out (.inl ()))) :
  ∀ (n k i:Nat),n=4 - i→i≤4→n<k→loopM f k (i:Int)=some (if (L.drop i).any p then .inr e else .inl ())
 | n,0,i,_,_,h=>absurd h (Nat.not_lt_zero _)
 | n,k+1,i,hn,hi,hk=>by
  by_cases he:i<4
  ·have hx:L[i]?=some L[i]:=gGe (by omega)
   have hdr:L.drop i=L[i] :: L.drop (i+1):=List.drop_eq_getElem_cons (by omega)
   have hs:=hf i _ hx
   rw[hdr,List.any_cons]
   cases hp:p L[i] with
   | true=>rw[hp] at hs;exact Kcs _ hs
   | false=>
    rw[hp] at hs
    rw[Kcr _ hs,Bool.false_or]
    exact Kaj hL hf hend (n - 1) k (i+1) (by omega) (by omega) (by omega)
  ·obtain rfl:i=4:=by omega
   rw[List.drop_eq_nil_of_le (by omega)]
   exact Kcs _ hend
theorem Kak(s:Str)(h:s.length≤50000):Kxw s=some (s.all wB&&decide (s.length≤100)):=by
 unfold Kxw
 rw[dT (show(s.length:Int)≤9223372036854775807 by omega)]
 simp only[gd,cond_true]
 rw[Kta (p:=wB) (v:=false) s (fun i x hx=>by
  rw[Kth hx]
  simp only[bi_some]
  unfold wB
  by_cases h1:32≤x.toNat
  ·rw[dF (show ¬ (x.toNat:Int)<32 by omega),dT h1]
   simp only[cond_false,bi_some,Bool.true_and]
   by_cases h2:x.toNat≤126
   ·rw[dF (show ¬ (x.toNat:Int)>126 by omega),dT h2];rfl
   rw[dT (show(x.toNat:Int)>126 by omega),dF h2];rfl
  rw[dT (show(x.toNat:Int)<32 by omega),dF h1];rfl)]
 cases s.all wB with
 | false=>rfl
 | true=>
  show some (decide ((s.length:Int)≤100))=_
  rw[Bool.true_and]
  congr 1
  refine decide_eq_decide.2 ?_
  omega
theorem bbif{α:Type}(b c d:Bool):(bif b then(some c:Option Bool) else some d)=some (bif b then c else d):=by cases b<;>rfl
theorem Kal(a:Str)(h:a.length≤50000):rangeI (σ:=Unit) (ρ:=Int) (fun i27 s28=>bi (getZ a (i27:Int)) fun c39=>bi (Kyo (wi ((c39.toNat:Int))) 32 126) fun y41=>bif !y41 then(bi (some 3) fun v=>some (.out v)) else(some (.go ()))) (a.length:Int) ()=some (if a.all wB then .go () else .out 3):=
 Kta (p:=wB) (v:=3) a (fun i x hx=>by
  have hx2:=x.toNat_lt
  rw[Kth hx]
  simp only[bi_some,Kyo]
  rw[Kss (by omega) (by omega)]
  unfold wB
  rw[show decide ((32:Int)≤(x.toNat:Int))=decide (32≤x.toNat) from decide_eq_decide.2 (by omega),show decide ((x.toNat:Int)≤126)=decide (x.toNat≤126) from decide_eq_decide.2 (by omega)]
  cases (decide (32≤x.toNat)&&decide (x.toNat≤126))<;>rfl)
def vL(a:Kxc):List Int:=[a.Version.1,a.Version.2.1,a.Version.2.2.1,a.Version.2.2.2]
theorem verP(k:Nat)(hk:10<k)(a:Kxc):loopM (σ:=Int) (ρ:=Unit ⊕ Int) (fun s34=>bif decide ((s34:Int)<4) then(bi (getZ ([a.Version.1,a.Version.2.1,a.Version.2.2.1,a.Version.2.2.2]:List Int) s34) fun x44=>bi (bif (a.Kind:Int)==4 then(bi (Kxv x44 0 1000000) fun y49=>some y49) else(some false)) fun q46=>bif q46 then(bi (some 1) fun v=>some (.out (.inr v))) else(bif (((a.Kind:Int) != 4)&&((x44:Int) != 0)) then(bi (some 3) fun v=>some (.out (.inr v))) else(some (.go (wi (s34+1)))))) else(some (.out (.inl ())))) k 0 =
  some (if (vL a).any (fun x=>bif (a.Kind:Int)==4 then decide (x<0)||decide (x>1000000) else x != 0) then .inr (bif (a.Kind:Int)==4 then 1 else 3) else .inl ()):=by
 refine(Kaj (L:=vL a) rfl (p:=fun x=>bif (a.Kind:Int)==4 then decide (x<0)||decide (x>1000000) else x != 0) (e:=bif (a.Kind:Int)==4 then 1 else 3) (fun i x hx=>?_) ?_ 4 k 0 rfl (by decide) (by omega)).trans (congrArg (fun l=>some (if List.any l _=true then _ else _)) List.drop_zero)
 ·have hi:i<4:=(gEs.1 hx).1
  rw[dT (show(i:Int)<4 by omega),cond_true,show getZ ([a.Version.1,a.Version.2.1,a.Version.2.2.1,a.Version.2.2.2]:List Int) (i:Int)=some x from Kth hx]
  simp only[bi_some,Kxv]
  rw[Kss (by omega) (by omega)]
  cases hK:(a.Kind:Int)==4 with
  | true=>
   simp only[cond_true,bi_some]
   have:((a.Kind:Int) != 4)=false:=by simp[bne,hK]
   rw[this]
   cases (decide (x<0)||decide (x>1000000))<;>rfl
  | false=>
   have:((a.Kind:Int) != 4)=true:=by simp[bne,hK]
   simp only[cond_false,bi_some,this,Bool.true_and]
   cases (x != 0)<;>rfl
 ·rfl
theorem verR(k:Nat)(hk:10<k)(a:Kxc):loopM (σ:=Int) (ρ:=Unit ⊕ Int) (fun s48=>bif decide ((s48:Int)<4) then(bi (getZ ([a.Version.1,a.Version.2.1,a.Version.2.2.1,a.Version.2.2.2]:List Int) s48) fun x58=>bi (bif (a.Kind:Int)==4 then(bi (Kyo x58 0 1000000) fun y63=>some (!y63)) else(some false)) fun q60=>bif q60 then(bi (some 1) fun v=>some (.out (.inr v))) else(some (.go (wi (s48+1))))) else(some (.out (.inl ())))) k 0 =
  some (if (vL a).any (fun x=>bif (a.Kind:Int)==4 then decide (x<0)||decide (x>1000000) else false) then .inr 1 else .inl ()):=by
 refine(Kaj (L:=vL a) rfl (p:=fun x=>bif (a.Kind:Int)==4 then decide (x<0)||decide (x>1000000) else false) (e:=1) (fun i x hx=>?_) ?_ 4 k 0 rfl (by decide) (by omega)).trans (congrArg (fun l=>some (if List.any l _=true then _ else _)) List.drop_zero)
 ·have hi:i<4:=(gEs.1 hx).1
  rw[dT (show(i:Int)<4 by omega),cond_true,show getZ ([a.Version.1,a.Version.2.1,a.Version.2.2.1,a.Version.2.2.2]:List Int) (i:Int)=some x from Kth hx]
  simp only[bi_some,Kyo]
  rw[Kss (by omega) (by omega)]
  cases hK:(a.Kind:Int)==4 with
  | true=>
   simp only[cond_true,bi_some]
   have hxx:(!(decide ((0:Int)≤x)&&decide (x≤1000000)))=(decide (x<0)||decide (x>1000000)):=by
    by_cases h1:(0:Int)≤x<;>by_cases h2:x≤1000000<;>simp[h1,h2]<;>omega
   rw[hxx]
   cases (decide (x<0)||decide (x>1000000))<;>rfl
  | false=>rfl
 ·rfl
theorem Kam(a:Kxc):(vL a).any (fun x=>x != 0)=!decide (([a.Version.1,a.Version.2.1,a.Version.2.2.1,a.Version.2.2.2]:List Int)=([0,0,0,0]:List Int)):=by
 unfold vL
 rw[Bool.eq_iff_iff]
 simp
theorem Kan(k:Nat)(hk:10<k)(a:Kxc)(hw:a.Words.length≤50000):∃ e,Kxx k a=some e∧Kyp k a=some e:=by
 unfold Kxx Kyp
 rw[Kak a.Words hw,Kal a.Words hw,verP k hk a,verR k hk a,dT (show(a.Words.length:Int)≤9223372036854775807 by omega)]
 obtain⟨c1,h1,h1'⟩:=Ktb a.Kind 1 4
 rw[h1,h1']
 simp only[bi_some]
 cases c1 with
 | true=>exact⟨4,rfl,rfl⟩
 | false=>
  simp only[cond_false,Bool.not_false,Bool.not_true]
  obtain⟨c2,h2,h2'⟩:=Ktb a.Number (-100000000) 100000000
  obtain⟨c3,h3,h3'⟩:=Ktb a.Number 0 1
  rw[h2,h2',h3,h3']
  simp only[bi_some,Bool.not_not,bbif (α:=Bool)]
  cases hq:(bif bif (a.Kind:Int)==1 then c2 else false then true else bif (a.Kind:Int)==3 then c3 else false) with
  | true=>exact⟨1,rfl,rfl⟩
  | false=>
   simp only[cond_false]
   cases hn:((((a.Kind:Int) != 1)&&((a.Kind:Int) != 3))&&((a.Number:Int) != 0)) with
   | true=>exact⟨3,rfl,rfl⟩
   | false=>
    simp only[cond_false]
    simp only[gd,cond_true,bi_some,bbif (α:=Bool)]
    by_cases hl:a.Words.length≤100
    ·rw[dT hl,dF (show ¬ (a.Words.length:Int)>100 by omega)]
     cases hK2:(a.Kind:Int)==2 with
     | true=>
      have hb:((a.Kind:Int) != 2)=false:=by simp[bne,hK2]
      have hK4:((a.Kind:Int)==4)=false:=by
       have:=eq_of_beq hK2;rw[this];rfl
      have hb4:((a.Kind:Int) != 4)=true:=by simp[bne,hK4]
      rw[hb,hK4,hb4]
      simp only[Bool.false_and,Bool.or_false,cond_true,cond_false,Bool.and_true,Bool.true_and]
      cases hall:a.Words.all wB with
      | false=>exact⟨3,rfl,rfl⟩
      | true=>
       simp only[Bool.not_true,cond_false,if_true,bi_some,goI,orI]
       rw[Kam]
       cases decide (([a.Version.1,a.Version.2.1,a.Version.2.2.1,a.Version.2.2.2]:List Int)=([0,0,0,0]:List Int)) with
       | true=>exact⟨0,by simp[orI],by simp[orI]⟩
       | false=>exact⟨3,by simp[orI],by simp[orI]⟩
     | false=>
      have hb:((a.Kind:Int) != 2)=true:=by simp[bne,hK2]
      rw[hb]
      simp only[cond_false,Bool.false_or,Bool.true_and,Bool.or_false]
      cases hE:((a.Words:Str)==[]) with
      | false=>exact⟨3,rfl,rfl⟩
      | true=>
       have:a.Words=[]:=eq_of_beq hE
       rw[this]
       simp only[Bool.not_true,cond_false,List.all_nil,if_true,bi_some,goI,orI]
       cases hK4:(a.Kind:Int)==4 with
       | true=>
        have hb4:((a.Kind:Int) != 4)=false:=by simp[bne,hK4]
        rw[hb4]
        simp only[cond_true,Bool.false_and,cond_false]
        by_cases hv:((vL a).any fun x=>decide (x<0)||decide (x>1000000))=true
        ·exact⟨1,by rw[if_pos hv],by rw[if_pos hv]⟩
        exact⟨0,by rw[if_neg hv],by rw[if_neg hv]⟩
       | false=>
        have hb4:((a.Kind:Int) != 4)=true:=by simp[bne,hK4]
        rw[hb4]
        simp only[cond_false,Bool.true_and]
        rw[Kam]
        cases decide (([a.Version.1,a.Version.2.1,a.Version.2.2.1,a.Version.2.2.2]:List Int)=([0,0,0,0]:List Int)) with
        | true=>exact⟨0,by simp[orI],by simp[orI]⟩
        | false=>exact⟨3,by simp[orI],by simp[orI]⟩
    rw[dF hl,dT (show(a.Words.length:Int)>100 by omega)]
    refine⟨3,?_,by simp⟩
    have hne:((a.Words:Str)==[])=false:=by
     cases hh:a.Words with
     | nil=>rw[hh] at hl;simp at hl
     | cons x y=>rfl
    rw[hne]
    cases hK2:(a.Kind:Int)==2 with
    | true=>simp[bne,hK2]
    | false=>simp[bne,hK2]
theorem Kao{α:Type}{f:Nat→α→Unit→Option (LS Unit Int)}(p:α→Bool)(hf:∀ i x,f i x ()=some (if p x then .out (i:Int) else .go ())):∀ (l:List α) (i:Nat),(l.any p=false∧rangeM f i l ()=some (.go ()))∨(l.any p=true∧∃ v:Int,0≤v∧rangeM f i l ()=some (.out v))
 | [],i=>.inl ⟨rfl,rfl⟩
 | x :: l,i=>by
  have h0:=hf i x
  cases hp:p x with
  | true=>
   rw[hp] at h0
   exact .inr ⟨by simp[hp],i,by omega,by simp only[rangeM,h0,if_true]⟩
  | false=>
   rw[hp] at h0
   rcases Kao p hf l (i+1) with⟨h1,h2⟩ | ⟨h1,v,h2,h3⟩
   ·exact .inl ⟨by simp[hp,h1],by simp only[rangeM,h0];exact h2⟩
   exact .inr ⟨by simp[hp,h1],v,h2,by simp only[rangeM,h0];exact h3⟩
def opsB(s:Str):Bool:=[[61,61],[33,61],[60],[60,61],[62],[62,61]].any fun x=>(s:Str)==x
theorem Lei(l:List Str)(s:Str):Kyy l s=some (l.any fun x=>(s:Str)==x):=by
 unfold Kyy Kyx
 rcases Kao (f:=fun i1 (x3:Str) s2=>bif (s:Str)==x3 then(bi (some (i1:Int)) fun v=>some (.out v)) else(some (.go ()))) (fun x=>(s:Str)==x) (fun i x=>by cases h:((s:Str)==x)<;>rfl) l 0 with⟨h1,h2⟩ | ⟨h1,v,h2,h3⟩
 ·rw[h2,h1];rfl
 rw[h3,h1]
 show some (decide (v≥0))=_
 rw[dT h2]
def verB(s:Str):Bool:=match s with
 | c :: d :: _=>(c==118)&&isD d
 | _=>false
theorem Kap(c:UInt8):Kzb (c.toNat:Int)=some (isD c):=by
 unfold Kzb isD
 congr 2
 ·exact decide_eq_decide.2 (by omega)
 exact decide_eq_decide.2 (by omega)
theorem Kaq(c:UInt8)(n:Nat)(hn:n<256):((c.toNat:Int)==(n:Int))=(c==UInt8.ofNat n):=by
 rw[Bool.eq_iff_iff]
 simp only[beq_iff_eq]
 constructor
 ·intro h
  apply UInt8.toNat_inj.1
  rw[UInt8.toNat_ofNat']
  omega
 intro h;subst h
 rw[UInt8.toNat_ofNat']
 omega
theorem Kar(s:Str):Kzf s=some (verB s):=by
 unfold Kzf
 match s with
 | []=>rfl
 | [c]=>rfl
 | c :: d :: r=>
  rw[dT (show(((c :: d :: r).length:Int):Int)>1 by simp;omega)]
  have e0:getZ (c :: d :: r) 0=some c:=rfl
  have e1:getZ (c :: d :: r) 1=some d:=rfl
  simp only[cond_true,e0,e1,bi_some,Kap]
  rw[show((c.toNat:Int)==118)=(c==118) from Kaq c 118 (by decide),show verB (c :: d :: r)=((c==118)&&isD d) from rfl]
  cases c==118<;>rfl
inductive CC.Gd:CC→Prop
 | mk {k:Int} {n o:Str} {v:Kxc} {l:List CC} (h1:n.length≤50000) (h2:v.Words.length≤50000) (h3:∀ x∈l,x.Gd):CC.Gd (.mk k n o v l)
def zA:Kxc:=⟨0,0,[],(0,0,0,0)⟩
def kidsP(k:Nat)(l42:List Kxi):Option Int:=bi (rangeM (σ:=Unit) (ρ:=Int) (fun i44 x46 s45=>bi (Lam k x46) fun y55=>bif (y55:Int) != 0 then(bi (some y55) fun v=>some (.out v)) else(some (.go ()))) 0 l42 ()) fun q=>goI q fun a49=>some 0
def leafP(k:Nat)(c:Kxi):Option (Unit ⊕ Int):=bif (c.Kind:Int)==1 then(bi (Kxu k c.Name) fun y13=>bi (bif (((!y13)||((c.Name:Str)==[116,114,117,101]))||((c.Name:Str)==[102,97,108,115,101])) then(some true) else(bi (Kzf c.Name) fun y19=>some y19)) fun q15=>bif q15 then(bi (some 5) fun v=>some (.inr v)) else(bi (Lab c.Op) fun y25=>bif !y25 then(bi (some 10) fun v=>some (.inr v)) else(bi (Kxx k c.Value) fun y31=>bif (y31:Int) != 0 then(bi (some y31) fun v=>some (.inr v)) else(bif ((((c.Value.Kind:Int)==3)&&(!((c.Op:Str)==[61,61])))&&(!((c.Op:Str)==[33,61]))) then(bi (some 10) fun v=>some (.inr v)) else(some (.inl ())))))) else(some (.inl ()))
def nameB(s:Str):Bool:=keyB s&&!((s:Str)==[116,114,117,101])&&!((s:Str)==[102,97,108,115,101])&&!verB s
def leafE(c:Kxi)(ea:Int):Int:=bif !nameB c.Name then 5 else bif !opsB c.Op then 10 else bif (ea:Int) != 0 then ea else bif ((((c.Value.Kind:Int)==3)&&(!((c.Op:Str)==[61,61])))&&(!((c.Op:Str)==[33,61]))) then 10 else 0
def restB(c:Kxi):Bool:=(((c.Name:Str)==[])&&((c.Op:Str)==[]))&&(((c.Value.Kind:Int)==0)&&(((c.Value.Number:Int)==0)&&(((c.Value.Words:Str)==[])&&(decide (([c.Value.Version.1,c.Value.Version.2.1,c.Value.Version.2.2.1,c.Value.Version.2.2.2]:List Int)=[0,0,0,0])&&true))))
def formB(c:Kxi)(L:List Kxi):Bool:=bif (c.Kind:Int)==1 then((L.length:Int):Int)==0 else(bif (c.Kind:Int)==2 then !(((L.length:Int):Int) != 1) else !(decide (((L.length:Int):Int)<2))&&!(L.any fun x=>(x.Kind:Int)==c.Kind))&&restB c
end Go.Gk
