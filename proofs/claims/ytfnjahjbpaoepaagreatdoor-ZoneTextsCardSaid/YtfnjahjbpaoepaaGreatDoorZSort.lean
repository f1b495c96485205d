import Derived.Test.YtfnjahjbpaoepaaGreatDoorZBase
import Derived.Test.YtfnjahjbpaoepaaGreatDoorJDraw
set_option linter.all false
set_option maxRecDepth 100000
namespace Go.Gk.ZZ
def wordsT:List Str:=[[],[104,105],[97,32,98],[118,61,49],[32,120],[97,10,98],[121]]
theorem Ktb:∀ w∈wordsT,∃ b,Kzl 40000 w=some b∧Lai w=some b∧w.length≤200∧(w=[]→b=true):=by
 intro w hw
 simp only[wordsT,List.mem_cons,List.not_mem_nil,or_false] at hw
 rcases hw with rfl | rfl | rfl | rfl | rfl | rfl | rfl<;>exact⟨_,rfl,rfl,by decide,fun h=>by first | rfl | cases h⟩
def okRec(r:Kyb):Prop:=r.Name.length≤300∧r.To.length≤300∧r.Words∈wordsT∧AOk r.Addr
theorem Ktc(a:Kya)(h:0≤a.Hi):∃ e,Kzj a=some e∧Lah a=some e:=by
 unfold Lah Kzj
 have e1:(a.Hi != 0)=decide (a.Hi>0):=by rw[Bool.eq_iff_iff];simp;omega
 have e2:decide (a.Lo≥4294967296)=decide (a.Lo>4294967295):=by rw[Bool.eq_iff_iff];simp;omega
 rw[e1,e2]
 cases (!a.Six&&(decide (a.Hi>0)||decide (a.Lo>4294967295)))<;>exact⟨_,rfl,rfl⟩
def kindB(k:Int):Bool:=k==1||(k==5||(k==12||(k==16||k==28)))
theorem Ktd(k:Int):Kzh k=some (kindB k):=by
 unfold Kzh kindB
 cases (k==1)<;>cases (k==5)<;>cases (k==12)<;>cases (k==16)<;>cases (k==28)<;>rfl
theorem Kte(k:Int):Lag [1,5,12,16,28] k=some (kindB k):=by
 unfold Lag Laf kindB
 simp only[rangeM]
 cases (k==1)<;>cases (k==5)<;>cases (k==12)<;>cases (k==16)<;>cases (k==28)<;>rfl
theorem Ktf(n a b:Int):∃ c,Kzm n a b=some c∧Laj n a b=some (!c):=by
 refine⟨_,rfl,?_⟩
 unfold Laj
 congr 1
 rw[Bool.eq_iff_iff]
 simp
theorem b3(e:Int):(e != 0)=!(e==0):=rfl
def cmpI(x y:Int):Int:=if x<y then -1 else if x>y then 1 else 0
theorem Ktg(x y:Int):Kyq x y=some (cmpI x y):=by
 unfold Kyq Kyp cmpI
 have:∀ z:Int,(z != z)=false:=fun z=>by simp
 rw[this,this]
 by_cases h:x<y
 ·simp[h]
 by_cases h2:y<x<;>simp[h,h2]
theorem Kth(x y:Int):Kzq x y=some (cmpI x y):=by
 unfold Kzq Kzp cmpI
 have:∀ z:Int,(z != z)=false:=fun z=>by simp
 rw[this,this]
 by_cases h:x<y
 ·simp[h]
 by_cases h2:y<x<;>simp[h,h2]
theorem Kti(x:Int)(l:List Int):∃ c,Kzr (x :: l)=some c∧(x≠0→c=x):=by
 unfold Kzr
 by_cases h:x=0
 ·generalize hf:(fun (i1:Nat) (x3:Int) (s2:Unit)=>_)=f
  obtain⟨r,hr⟩:=Kwt (f:=f) (x :: l) 0 (by
   intro j x _ _
   subst hf
   simp only
   cases (x != 0)<;>exact⟨_,rfl⟩)
  rw[hr]
  cases r<;>exact⟨_,rfl,fun h2=>absurd h h2⟩
 have:(x != 0)=true:=by simpa using h
 exact⟨x,by simp[rangeM,this,goI],fun _=>rfl⟩
theorem Ktj(a b:Kyb):∃ c,Kzs a b=some c∧Lan a b=some c∧(c<0→Lib.compareBytes a.Name b.Name≤0):=by
 unfold Kzs Lan
 have hc:∀ s t:Str,Kty s t=some (Lib.compareBytes s t):=fun _ _=>rfl
 simp only[hc,bi_some,Ktg,Kth]
 obtain⟨c,h1,h2⟩:=Kti (Lib.compareBytes a.Name b.Name) [cmpI a.Kind b.Kind,cmpI a.Addr.Hi b.Addr.Hi,cmpI a.Addr.Lo b.Addr.Lo,Lib.compareBytes a.To b.To,Lib.compareBytes a.Words b.Words]
 rw[h1]
 refine⟨c,rfl,rfl,fun hc=>?_⟩
 by_cases h0:Lib.compareBytes a.Name b.Name=0
 ·omega
 rw[h2 h0] at hc;omega
theorem Ktk:∀ a:Str,Lib.compareBytes a a=0
 | []=>rfl
 | x :: a=>by
  have:=Ktk a
  simp[Lib.compareBytes,this]
theorem Ktl:∀ a b c:Str,Lib.compareBytes a b≤0→Lib.compareBytes b c≤0→Lib.compareBytes a c≤0
 | [],_,[],_,_=>by decide
 | [],_,_ :: _,_,_=>by simp[Lib.compareBytes]
 | _ :: _,[],_,h,_=>by simp[Lib.compareBytes] at h
 | _ :: _,_ :: _,[],_,h=>by simp[Lib.compareBytes] at h
 | x :: a,y :: b,z :: c,h1,h2=>by
  have ih:=Ktl a b c
  simp only[Lib.compareBytes,UInt8.lt_iff_toNat_lt] at h1 h2 ⊢
  split at h1<;>split at h2<;>rename_i h3 h4
  ·rw[if_pos (by omega)];decide
  ·split at h2
   ·omega
   rw[if_pos (by omega)];decide
  ·split at h1
   ·omega
   rw[if_pos (by omega)];decide
  split at h1
  ·omega
  split at h2
  ·omega
  rw[if_neg (by omega),if_neg (by omega)]
  exact ih h1 h2
theorem Ktm:∀ a b:Str,Lib.compareBytes a b≤0→Lib.compareBytes b a≤0→a=b
 | [],[],_,_=>rfl
 | [],_ :: _,_,h=>by simp[Lib.compareBytes] at h
 | _ :: _,[],h,_=>by simp[Lib.compareBytes] at h
 | x :: a,y :: b,h1,h2=>by
  have ih:=Ktm a b
  simp only[Lib.compareBytes,UInt8.lt_iff_toNat_lt] at h1 h2
  by_cases h3:x.toNat<y.toNat
  ·rw[if_neg (by omega),if_pos h3] at h2;omega
  by_cases h4:y.toNat<x.toNat
  ·rw[if_neg h3,if_pos h4] at h1;omega
  rw[if_neg h3,if_neg h4] at h1
  rw[if_neg h4,if_neg h3] at h2
  have:x=y:=UInt8.toNat_inj.1 (by omega)
  rw[this,ih h1 h2]
def Calm(R:List Kyb):Prop:=∀ (i:Nat) (a b:Kyb),R[i]?=some a→R[i+1]?=some b→Lib.compareBytes a.Name b.Name≤0∧(a.Name=b.Name→a.Kind≠5∧b.Kind≠5)
theorem Calm.mono{R:List Kyb}(h:Calm R):∀ (n i:Nat) (a b:Kyb),R[i]?=some a→R[i+n]?=some b→Lib.compareBytes a.Name b.Name≤0
 | 0,i,a,b,ha,hb=>by
  rw[Nat.add_zero,ha] at hb
  cases hb
  rw[Ktk];exact Int.le_refl _
 | n+1,i,a,b,ha,hb=>by
  have hlt:=(List.getElem?_eq_some_iff.1 hb).1
  have hc:R[i+n]?=some (R[i+n]'(by omega)):=List.getElem?_eq_getElem (by omega)
  exact Ktl _ _ _ (h.mono n i a _ ha hc) (h (i+n) _ b hc (by rw[←hb];rfl)).1
theorem Calm.pair{R:List Kyb}(h:Calm R):R.Pairwise fun a b=>a.Name=b.Name→a.Kind≠5∧b.Kind≠5:=by
 rw[List.pairwise_iff_getElem]
 intro i j hi hj hij e
 have ha:R[i]?=some R[i]:=List.getElem?_eq_getElem hi
 have hb:R[j]?=some R[j]:=List.getElem?_eq_getElem hj
 have hc:R[i+1]?=some (R[i+1]'(by omega)):=List.getElem?_eq_getElem (by omega)
 have hd:R[j - 1]?=some (R[j - 1]'(by omega)):=List.getElem?_eq_getElem (by omega)
 constructor
 ·obtain⟨k1,k2⟩:=h i _ _ ha hc
  have k3:=h.mono (j - (i+1)) (i+1) _ _ hc (by rw[show i+1+(j - (i+1))=j by omega];exact hb)
  exact(k2 (Ktm _ _ k1 (by rw[e];exact k3))).1
 obtain⟨k1,k2⟩:=h (j - 1) _ _ hd (by rw[show j - 1+1=j by omega];exact hb)
 have k3:=h.mono (j - 1 - i) i _ _ ha (by rw[show i+(j - 1 - i)=j - 1 by omega];exact hd)
 exact(k2 (Ktm _ _ k1 (by rw[←e];exact k3))).2
def OneOr(l:List Kyb):Prop:=(∃ x,l=[x])∨∀ x∈l,x.Kind≠5
theorem Calm.one{R:List Kyb}(h:Calm R)(want:Str):OneOr (R.filter fun r=>r.Name==want):=by
 have hp:=h.pair.sublist (List.filter_sublist (p:=fun r=>r.Name==want))
 have hn:∀ x∈R.filter (fun r=>r.Name==want),x.Name=want:=fun x hx=>by have:=(List.mem_filter.1 hx).2;simpa using this
 generalize R.filter (fun r=>r.Name==want)=l at hp hn
 match l with
 | []=>exact .inr fun x hx=>by cases hx
 | [x]=>exact .inl ⟨x,rfl⟩
 | x :: y :: t=>
  right
  intro z hz
  rw[List.pairwise_cons] at hp
  have nx:=hn x List.mem_cons_self
  rcases List.mem_cons.1 hz with rfl | hz'
  ·exact(hp.1 y List.mem_cons_self (nx.trans (hn y (by simp)).symm)).1
  exact(hp.1 z hz' (nx.trans (hn z hz).symm)).2
end Go.Gk.ZZ
namespace Go.Gk.ZZ
def okZone(z:Kyc):Prop:=z.Root.length≤300∧z.Records.length≤100∧∀ r∈z.Records,okRec r
theorem Ksx{α ρ:Type}{f:Nat→α→Unit→Option (LS Unit ρ)}:∀ (l:List α) (i:Nat) {s:Unit},rangeM f i l ()=some (.go s)→∀ j x,l[j]?=some x→f (i+j) x ()=some (.go ())
 | [],i,s,_,j,x,h=>by simp at h
 | y :: l,i,s,h,j,x,hx=>by
  simp only[rangeM] at h
  cases hf:f i y () with
  | none=>rw[hf] at h;cases h
  | some q=>
   rw[hf] at h
   cases q with
   | out r=>cases h
   | go u=>
    cases j with
    | zero=>simp at hx;subst hx;exact hf
    | succ j=>have:=Ksx l (i+1) h j x (by simpa using hx);rw[show i+(j+1)=i+1+j by omega];exact this
theorem Ksy(n z:Str):Lam n z=Kzo n z:=rfl
theorem Ksz{σ ρ:Type}{f:σ→Option (LS σ ρ)}(I:σ→Prop)(μ:σ→Nat)(R:ρ→Prop)(h:∀ s,I s→∃ y,f s=some y∧(∀ s',y=.go s'→I s'∧μ s'<μ s)∧∀ r,y=.out r→R r):∀ (k:Nat) (s:σ),I s→μ s<k→∃ r,loopM f k s=some r∧R r
 | 0,s,_,hk=>by omega
 | k+1,s,hI,hk=>by
  obtain⟨y,h1,h2,h3⟩:=h s hI
  simp only[loopM,h1]
  cases y with
  | out r=>exact⟨r,rfl,h3 r rfl⟩
  | go s'=>
   obtain⟨h4,h5⟩:=h2 s' rfl
   exact Ksz I μ R h k s' h4 (by omega)
def renm(name:Str)(r:Kyb):Kyb:=⟨name,r.Kind,r.Addr,r.To,r.Words,r.Life⟩
theorem OneOr.renm{l:List Kyb}(h:OneOr l)(name:Str):OneOr (l.map (renm name)):=by
 rcases h with⟨x,rfl⟩ | h
 ·exact .inl ⟨_,rfl⟩
 right
 intro x hx
 obtain⟨y,hy,rfl⟩:=List.mem_map.1 hx
 exact h y hy
end Go.Gk.ZZ
namespace Go.Gk.ZZ
theorem Krf(x:Int):0≤IntKind.u64.wrap x:=Int.emod_nonneg _ (by decide)
def Dr{α:Type}(l:List Int)(a:Int)(n:Int)(m:Option (α×Kxz))(p:α→Prop):Prop:=∃ x a',p x∧a≤a'∧a'≤a+n∧m=some (x,⟨l,a'⟩)
theorem Kta(l:List Int)(a lo hi:Int)(hl:l.length≤9223372036854775807)(h0:0≤a)(h1:a<4611686018427387904)(h2:lo≤hi)(h3 : -1000000000≤lo)(h4:hi≤1000000000) :
  ∃ r,lo≤r∧r≤hi∧Kyh ⟨l,a⟩ lo hi=some (r,⟨l,a+1⟩):=by
 unfold Kyh
 have w1:wi (hi - lo)=hi - lo:=Kwl (by omega) (by omega)
 have w2:wi (hi - lo+1)=hi - lo+1:=Kwl (by omega) (by omega)
 obtain⟨r,r0,r1,hr⟩:=Kwo l a (hi - lo+1) hl h0 h1 (by omega) (by omega)
 refine⟨lo+r,by omega,by omega,?_⟩
 rw[decide_eq_false (show ¬ hi<lo by omega),w1,w2,hr]
 simp only[cond_false,bi_some]
 rw[Kwl (by omega) (by omega)]
theorem Lit:AOk (⟨false,0,0⟩:Kya):=⟨by decide,by decide,by decide,by decide⟩
theorem oddD(l:List Int)(a lo hi:Int)(hl:l.length≤9223372036854775807)(h0:0≤a)(h1:a<4611686018427370000)(h2:lo≤hi)(h3 : -1000000000≤lo)(h4:hi≤1000000000):Dr l a 5 (Kyn ⟨l,a⟩ lo hi) fun _=>True:=by
 obtain⟨f,hf⟩:=Kwp l a 12 hl (by omega) (by omega) (by decide) (by decide)
 unfold Kyn Dr
 rw[hf]
 simp only[bi_some]
 cases f with
 | true=>
  obtain⟨x,_,hx⟩:=Kwr l (a+1) [wi (lo - 1),wi (hi+1),lo,hi,-1099511627776,1099511627776] hl (by omega) (by omega) (by simp) (by simp)
  simp only[cond_true,hx,bi_some]
  refine⟨_,_,?_,?_,?_,rfl⟩;exact trivial;omega;omega
 | false=>
  obtain⟨x,_,_,hx⟩:=Kta l (a+1) lo hi hl (by omega) (by omega) h2 h3 h4
  simp only[cond_false,hx,bi_some]
  refine⟨_,_,?_,?_,?_,rfl⟩;exact trivial;omega;omega
theorem toT:∀ x∈([[97,46,110,101,116,46,120],[98,46,110,101,116,46,120],[99,46,110,101,116,46,120],[113,46,108,97,98,46,110,101,116,46,120],[100,46,110,101,116,46,120],[111,116,104,101,114]]:List Str),x.length≤300:=by decide
theorem toT2:∀ x∈([[97,46,110,101,116,46,120],[98,46,110,101,116,46,120]]:List Str),x.length≤300:=by decide
theorem toT3:∀ x∈([[],[65],[120]]:List Str),x.length≤300:=by decide
theorem woT:∀ x∈([[],[104,105],[97,32,98],[118,61,49]]:List Str),x∈wordsT:=by decide
theorem woT2:∀ x∈([[32,120],[97,10,98],[],[121]]:List Str),x∈wordsT:=by decide
theorem recD(l:List Int)(a:Int)(name:Str)(hl:l.length≤9223372036854775807)(h0:0≤a)(h1:a<4611686018427360000)(hn:name.length≤300):Dr l a 30 (Kyo ⟨l,a⟩ name) okRec:=by
 obtain⟨life,_,hlife⟩:=Kwr l a [0,5,60,1000000] hl (by omega) (by omega) (by decide) (by decide)
 obtain⟨kd,k0,k1,hkd⟩:=Kwo l (a+1) 7 hl (by omega) (by omega) (by decide) (by decide)
 unfold Kyo Dr
 rw[hlife]
 simp only[bi_some,hkd]
 generalize hX:(bi (bif (kd==0) then(some (kd==0)) else(some (kd==1))) fun q7=>bif q7 then _ else _:Option (Kxz×Kyb))=X
 have hq:∃ r b,okRec r∧a+2≤b∧b≤a+5∧X=some (⟨l,b⟩,r):=by
  subst hX
  generalize hb01:(bif (kd==0) then(some (kd==0)) else(some (kd==1)))=b01
  obtain⟨b,rfl⟩:∃ b,b01=some b:=by subst hb01;cases (kd==0)<;>exact⟨_,rfl⟩
  simp only[bi_some]
  have w0:([]:Str)∈wordsT:=by decide
  cases b with
  | true=>
   obtain⟨x,_,_,hx⟩:=Kta l (a+1+1) 1 3 hl (by omega) (by omega) (by decide) (by decide) (by decide)
   simp only[cond_true,hx,bi_some,Kyi]
   refine⟨_,_,?_,?_,?_,rfl⟩;exact⟨hn,by simp,w0,⟨Int.le_refl 0,(by decide:(0:Int)<18446744073709551616),Gk.Krf _,Gk.Krg _⟩⟩;omega;omega
  | false=>
   cases (kd==2) with
   | true=>
    obtain⟨x,_,_,hx⟩:=Kta l (a+1+1) 1 3 hl (by omega) (by omega) (by decide) (by decide) (by decide)
    simp only[cond_true,cond_false,hx,bi_some,Kyj]
    refine⟨_,_,?_,?_,?_,rfl⟩;exact⟨hn,by simp,w0,⟨(by decide:(0:Int)≤18230571291595767808),(by decide:(18230571291595767808:Int)<18446744073709551616),Gk.Krf _,Gk.Krg _⟩⟩;omega;omega
   | false=>
    cases (kd==3) with
    | true=>
     obtain⟨x,hx,e⟩:=Lgi l (a+1+1) [[],[104,105],[97,32,98],[118,61,49]] hl (by omega) (by omega) (by decide) (by decide)
     simp only[cond_true,cond_false,e,bi_some]
     refine⟨_,_,?_,?_,?_,rfl⟩;exact⟨hn,by simp,woT x hx,Lit⟩;omega;omega
    | false=>
     cases (kd==4) with
     | true=>
      obtain⟨x,hx,e⟩:=Lgi l (a+1+1) [[97,46,110,101,116,46,120],[98,46,110,101,116,46,120]] hl (by omega) (by omega) (by decide) (by decide)
      simp only[cond_true,cond_false,e,bi_some]
      refine⟨_,_,?_,?_,?_,rfl⟩;exact⟨hn,toT2 x hx,w0,Lit⟩;omega;omega
     | false=>
      obtain⟨x,hx,e⟩:=Lgi l (a+1+1) [[97,46,110,101,116,46,120],[98,46,110,101,116,46,120],[99,46,110,101,116,46,120],[113,46,108,97,98,46,110,101,116,46,120],[100,46,110,101,116,46,120],[111,116,104,101,114]] hl (by omega) (by omega) (by decide) (by decide)
      simp only[cond_false,e,bi_some]
      refine⟨_,_,?_,?_,?_,rfl⟩;exact⟨hn,toT x hx,w0,Lit⟩;omega;omega
 obtain⟨r,b,⟨p1,p2,p3,p4⟩,q1,q2,rfl⟩:=hq
 obtain⟨f,hf⟩:=Kwp l b 40 hl (by omega) (by omega) (by decide) (by decide)
 simp only[bi_some,hf]
 cases f with
 | false=>refine⟨_,_,?_,?_,?_,rfl⟩;exact⟨p1,p2,p3,p4⟩;omega;omega
 | true=>
  obtain⟨k,k0,k1,hk⟩:=Kwo l (b+1) 4 hl (by omega) (by omega) (by decide) (by decide)
  simp only[cond_true,hk,bi_some]
  cases (k==0) with
  | true=>
   obtain⟨x,_,e⟩:=Kwr l (b+1+1) [0,2,5] hl (by omega) (by omega) (by decide) (by decide)
   simp only[cond_true,e,bi_some]
   refine⟨_,_,?_,?_,?_,rfl⟩;exact⟨p1,p2,p3,p4⟩;omega;omega
  | false=>
   cases (k==1) with
   | true=>
    obtain⟨x,c,p,c1,c2,e⟩:=Gk.rawD l hl (b+1+1) (by omega) (by omega)
    simp only[cond_true,cond_false,e,bi_some]
    refine⟨_,_,?_,?_,?_,rfl⟩;exact⟨p1,p2,p3,p⟩;omega;omega
   | false=>
    cases (k==2) with
    | true=>
     obtain⟨x,hx,e⟩:=Lgi l (b+1+1) [[],[65],[120]] hl (by omega) (by omega) (by decide) (by decide)
     simp only[cond_true,cond_false,e,bi_some]
     refine⟨_,_,?_,?_,?_,rfl⟩;exact⟨p1,toT3 x hx,p3,p4⟩;omega;omega
    | false=>
     obtain⟨x,hx,e⟩:=Lgi l (b+1+1) [[32,120],[97,10,98],[],[121]] hl (by omega) (by omega) (by decide) (by decide)
     obtain⟨y,c,_,c1,c2,e2⟩:=oddD l (b+1+1+1) 0 1000000 hl (by omega) (by omega) (by decide) (by decide) (by decide)
     simp only[cond_false,e,bi_some,e2]
     refine⟨_,_,?_,?_,?_,rfl⟩;exact⟨p1,p2,woT2 x hx,p4⟩;omega;omega
end Go.Gk.ZZ
namespace Go.Gk.ZZ
theorem Ksl(a b:Kyb):∃ c,Kys a b=some c:=by
 unfold Kys Kyr
 generalize hf:(fun (i1:Nat) (x4:Int) (s3:Unit)=>_)=f
 obtain⟨r,hr⟩:=Kwt (f:=f) [a.Kind,wi a.Addr.Lo] 0 (by
  intro j x hj _
  subst hf
  simp only[List.length_cons,List.length_nil] at hj ⊢
  rw[decide_eq_false (show ¬ ((j:Int)≥((0+1+1:Nat):Int)) by omega)]
  obtain⟨y,_,hy⟩:=Kwq [b.Kind,wi b.Addr.Lo] (r:=(j:Int)) (by omega) (by simp;omega)
  simp only[cond_false,hy,bi_some,Ktg]
  cases (cmpI x y != 0)<;>exact⟨_,rfl⟩)
 rw[hr]
 cases r with
 | out v=>exact⟨_,rfl⟩
 | go u=>exact⟨_,rfl⟩
theorem Ksm{l:List Kyb}{p:Kyb→Prop}(h:∀ x∈l,p x){i:Nat}{y:Kyb}(hy:p y):∀ x∈l.set i y,p x:=fun x hx=>by
 rcases List.mem_or_eq_of_mem_set hx with h' | rfl
 ·exact h x h'
 exact hy
theorem Lio(data:List Kyb)(hl:data.length≤100)(h:∀ x∈data,okRec x):∃ r,Kyt 40000 data 0 (data.length:Int)=some r∧r.length=data.length∧∀ x∈r,okRec x:=by
 unfold Kyt
 generalize hf:(fun (s2:List Kyb×Int)=>_)=f
 have w1:wi ((0:Int)+1)=1:=rfl
 rw[w1]
 obtain⟨r,e1,e2⟩:=Ksz (f:=f) (fun s=>s.1.length=data.length∧(∀ x∈s.1,okRec x)∧1≤s.2∧s.2≤101) (fun s=>(101 - s.2).toNat) (fun r=>r.length=data.length∧∀ x∈r,okRec x) (by
  rintro⟨d,i⟩ ⟨i1,i2,i3,i4⟩
  simp only at i1 i2 i3 i4
  subst hf
  simp only
  by_cases hi:i<(data.length:Int)
  ·rw[decide_eq_true hi]
   simp only[cond_true]
   generalize hg:(fun (s13:List Kyb×Int)=>_)=g
   obtain⟨q,q1,q2⟩:=Ksz (f:=g) (fun s=>s.1.length=data.length∧(∀ x∈s.1,okRec x)∧0≤s.2∧s.2<data.length) (fun s=>s.2.toNat) (fun r=>r.length=data.length∧∀ x∈r,okRec x) (by
    rintro⟨e,j⟩ ⟨j1,j2,j3,j4⟩
    simp only at j1 j2 j3 j4
    subst hg
    simp only
    by_cases hj:j>0
    ·have wj:wi (j - 1)=j - 1:=Kwl (by omega) (by omega)
     obtain⟨x,hx,ex⟩:=Kwq e (r:=j) (by omega) (by omega)
     obtain⟨y,hy,ey⟩:=Kwq e (r:=j - 1) (by omega) (by omega)
     obtain⟨c,hc⟩:=Ksl x y
     rw[decide_eq_true hj,wj]
     obtain⟨v,_,ev⟩:=Kwq (e.set j.toNat y) (r:=(((j - 1).toNat:Nat):Int)) (by omega) (by simp;omega)
     simp only[cond_true,ex,ey,bi_some,hc,ev]
     cases decide (c<0) with
     | false=>exact⟨_,rfl,fun s' e=>(by cases e),fun r e=>(by cases e;exact⟨j1,j2⟩)⟩
     | true=>exact⟨_,rfl,fun s' e=>(by cases e;exact⟨⟨by simpa using j1,Ksm (Ksm j2 (j2 y hy)) (j2 x hx),by simp only;omega,by simp only;omega⟩,by simp only;omega⟩),fun r e=>(by cases e)⟩
    ·rw[decide_eq_false hj]
     exact⟨_,rfl,fun s' e=>(by cases e),fun r e=>(by cases e;exact⟨j1,j2⟩)⟩)
    40000 (d,i) ⟨i1,i2,by simp only;omega,hi⟩ (by simp only;omega)
   rw[q1]
   have wi1:wi (i+1)=i+1:=Kwl (by omega) (by omega)
   simp only[bi_some,wi1]
   exact⟨_,rfl,fun s' e=>(by cases e;exact⟨⟨q2.1,q2.2,by simp only;omega,by simp only;omega⟩,by simp only;omega⟩),fun r e=>(by cases e)⟩
  ·rw[decide_eq_false hi]
   exact⟨_,rfl,fun s' e=>(by cases e),fun r e=>(by cases e;exact⟨i1,i2⟩)⟩)
  40000 (data,1) ⟨rfl,h,(by decide:(1:Int)≤1),(by decide:(1:Int)≤101)⟩ (by simp)
 rw[e1]
 exact⟨r,rfl,e2⟩
theorem Lip(data:List Kyb)(hl:data.length≤19)(h:∀ x∈data,okRec x):∃ r,Kyy 40000 data=some r∧r.length=data.length∧∀ x∈r,okRec x:=by
 unfold Kyy Kyx
 obtain⟨r,e1,e2,e3⟩:=Lio data (by omega) h
 have d1:decide ((20:Int)≤(data.length:Int))=false:=decide_eq_false (by omega)
 have d2:decide ((20:Int)<(data.length:Int))=false:=decide_eq_false (by omega)
 have d3:decide (r.length=data.length)=true:=decide_eq_true e2
 refine⟨r,?_,e2,e3⟩
 have l1:∀ {σ ρ:Type} {f:σ→Option (LS σ ρ)} {k:Nat} {s:σ} (r:ρ),f s=some (.out r)→loopM f (k+1) s=some r:=fun r h=>by simp only[loopM,h]
 rw[l1 (k:=39999) (data,(0:Int)) (by simp only[d1,cond_false])]
 simp only[bi_some]
 rw[e1]
 simp only[bi_some,d3,gd_true]
 rw[l1 (k:=39999) r (by simp only[d2,cond_false])]
 rfl
theorem Liq(x y:Kyb)(l:List Int)(a:Int)(hl:l.length≤9223372036854775807)(h0:0≤a)(h1:a<4611686018427360000):∃ b a',Kyz x y ⟨l,a⟩=some (b,⟨l,a'⟩)∧a≤a'∧a'≤a+1:=by
 unfold Kyz
 obtain⟨f,hf⟩:=Kwp l a 20 hl h0 (by omega) (by decide) (by decide)
 generalize ((x.Kind==y.Kind)&&(_:Bool))=c
 cases c with
 | true=>simp only[cond_true,hf,bi_some];exact⟨_,_,rfl,by omega,by omega⟩
 | false=>exact⟨_,_,rfl,by omega,by omega⟩
theorem Lir(s:List Kyb)(l:List Int)(a:Int)(hs:s.length≤19)(h:∀ x∈s,okRec x)(hl:l.length≤9223372036854775807)(h0:0≤a)(h1:a<4611686018427350000) :
  ∃ r a',Kza 40000 s ⟨l,a⟩=some (r,⟨l,a'⟩)∧r.length≤s.length∧(∀ x∈r,okRec x)∧a≤a'∧a'≤a+100:=by
 unfold Kza
 by_cases h2:(s.length:Int)<2
 ·rw[decide_eq_true h2]
  exact⟨_,_,rfl,Nat.le_refl _,h,by omega,by omega⟩
 ·rw[decide_eq_false h2]
  simp only[cond_false]
  generalize hf:(fun (s4:Kxz×Int)=>_)=f
  obtain⟨r,e1,e2⟩:=Ksz (f:=f) (fun t=>1≤t.2∧t.2≤20∧∃ b,t.1=⟨l,b⟩∧a≤b∧b≤a+t.2) (fun t=>(20 - t.2).toNat) (fun r=>(∃ b,r=.inl ⟨l,b⟩∧a≤b∧b≤a+100)∨∃ q b,r=.inr (q,⟨l,b⟩)∧q.length≤s.length∧(∀ x∈q,okRec x)∧a≤b∧b≤a+100) (by
   rintro⟨t,i⟩ ⟨i1,i2,b,rfl,i3,i4⟩
   simp only at i1 i2 i4
   subst hf
   simp only
   by_cases hi:i<(s.length:Int)
   ·have wj:wi (i - 1)=i - 1:=Kwl (by omega) (by omega)
    have wj2:wi (i+1)=i+1:=Kwl (by omega) (by omega)
    obtain⟨x,hx,ex⟩:=Kwq s (r:=i) (by omega) (by omega)
    obtain⟨y,hy,ey⟩:=Kwq s (r:=i - 1) (by omega) (by omega)
    obtain⟨c,b',hc,c1,c2⟩:=Liq x y l b hl (by omega) (by omega)
    rw[decide_eq_true hi,wj,wj2]
    simp only[cond_true,ex,ey,bi_some,hc]
    cases c with
    | false=>exact⟨_,rfl,fun s' e=>(by cases e;exact⟨⟨by simp only;omega,by simp only;omega,_,rfl,by omega,by simp only;omega⟩,by simp only;omega⟩),fun r e=>(by cases e)⟩
    | true=>
     have hsub:subZ s i (s.length:Int)=some (s.drop i.toNat):=by
      unfold subZ
      rw[decide_eq_true (show(0:Int)≤i by omega),decide_eq_true (show i≤(s.length:Int) by omega),decide_eq_true (Int.le_refl _)]
      simp[List.take_of_length_le]
     simp only[cond_true,hsub,bi_some]
     have hzl:(s.drop i.toNat).length=s.length - i.toNat:=List.length_drop
     generalize s.drop i.toNat=z at hzl
     generalize hg:(fun (s26:List Kyb×Kxz×Int×Int)=>_)=g
     obtain⟨q,q1,q2⟩:=Ksz (f:=g) (fun t=>t.1.length=s.length∧(∀ x∈t.1,okRec x)∧i≤t.2.2.1∧t.2.2.1+1≤i+t.2.2.2∧1≤t.2.2.2∧t.2.2.2≤(z.length:Int)∧∃ b2,t.2.1=⟨l,b2⟩∧a≤b2∧b2≤a+25+t.2.2.2) (fun t=>(20 - t.2.2.2).toNat) (fun r=>r.1.length=s.length∧(∀ x∈r.1,okRec x)∧0≤r.2.2∧r.2.2≤(s.length:Int)∧∃ b2,r.2.1=⟨l,b2⟩∧a≤b2∧b2≤a+50) (by
      rintro⟨d,t,j,k⟩ ⟨j1,j2,j3,j4,j5,j6,b2,rfl,j7,j8⟩
      simp only at j1 j2 j3 j4 j5 j6 j8
      subst hg
      simp only
      by_cases hk:k<(z.length:Int)
      ·have v1:wi (k - 1)=k - 1:=Kwl (by omega) (by omega)
       have v2:wi (k+1)=k+1:=Kwl (by omega) (by omega)
       have v3:wi (j+1)=j+1:=Kwl (by omega) (by omega)
       obtain⟨x1,_,g1⟩:=Kwq z (r:=k) (by omega) hk
       obtain⟨x2,m2,g2⟩:=Kwq d (r:=((i.toNat+k.toNat:Nat):Int)) (by omega) (by omega)
       obtain⟨x3,_,g3⟩:=Kwq z (r:=k - 1) (by omega) (by omega)
       obtain⟨x4,_,g4⟩:=Kwq d (r:=((i.toNat+(k - 1).toNat:Nat):Int)) (by omega) (by omega)
       obtain⟨x5,_,g5⟩:=Kwq d (r:=j) (by omega) (by omega)
       obtain⟨c,b',hc,c1,c2⟩:=Liq x2 x4 l b2 hl (by omega) (by omega)
       rw[decide_eq_true hk,v1,v2,v3]
       simp only[cond_true,g1,g2,g3,g4,g5,bi_some,hc]
       cases c with
       | true=>exact⟨_,rfl,fun s' e=>(by cases e;exact⟨⟨j1,j2,j3,by simp only;omega,by simp only;omega,by simp only;omega,_,rfl,by omega,by simp only;omega⟩,by simp only;omega⟩),fun r e=>(by cases e)⟩
       | false=>exact⟨_,rfl,fun s' e=>(by cases e;exact⟨⟨by simpa using j1,Ksm j2 (j2 x2 m2),by simp only;omega,by simp only;omega,by simp only;omega,by simp only;omega,_,rfl,by omega,by simp only;omega⟩,by simp only;omega⟩),fun r e=>(by cases e)⟩
      ·rw[decide_eq_false hk]
       exact⟨_,rfl,fun s' e=>(by cases e),fun r e=>(by cases e;exact⟨j1,j2,by simp only;omega,by simp only;omega,b2,rfl,by omega,by omega⟩)⟩)
      40000 (s,⟨l,b'⟩,i,1) ⟨rfl,h,by simp only;omega,by simp only;omega,by simp only;omega,by simp only;omega,b',rfl,by omega,by simp only;omega⟩ (by simp only;omega)
     rw[q1]
     obtain⟨p1,p2,p3,p4,b2,p5,p6,p7⟩:=q2
     have hsub2:∃ z,subZ q.1 q.2.2 (q.1.length:Int)=some z:=by
      unfold subZ
      rw[decide_eq_true p3,decide_eq_true (show q.2.2≤(q.1.length:Int) by omega),decide_eq_true (Int.le_refl _)]
      exact⟨_,rfl⟩
     obtain⟨z2,hz2⟩:=hsub2
     simp only[bi_some,hz2]
     refine⟨_,rfl,fun s' e=>(by cases e),fun r e=>?_⟩
     cases e
     exact .inr ⟨_,b2,by rw[p5],by simp;omega,fun x hx=>p2 x (List.mem_of_mem_take hx),by omega,by omega⟩
   ·rw[decide_eq_false hi]
    exact⟨_,rfl,fun s' e=>(by cases e),fun r e=>(by cases e;exact .inl ⟨b,rfl,by omega,by omega⟩)⟩)
   40000 (⟨l,a⟩,1) ⟨(by decide:(1:Int)≤1),(by decide:(1:Int)≤20),a,rfl,by omega,by simp only;omega⟩ (by simp)
  rw[e1]
  rcases e2 with⟨b,rfl,b1,b2⟩ | ⟨q,b,rfl,q1,q2,b1,b2⟩
  ·exact⟨s,b,rfl,Nat.le_refl _,h,b1,b2⟩
  ·exact⟨q,b,rfl,q1,q2,b1,b2⟩
def znames:List Str:=[[42,46,108,97,98,46,110,101,116,46,120],[42,46,110,101,116,46,120],[97,46,110,101,116,46,120],[98,46,110,101,116,46,120],[99,46,110,101,116,46,120],[100,101,101,112,46,97,46,110,101,116,46,120],[110,101,116,46,120],[115,46,116,46,110,101,116,46,120]]
theorem Ksn:∀ x∈znames,x.length≤300:=by decide
theorem zoneD(l:List Int)(a:Int)(hl:l.length≤9223372036854775807)(h0:0≤a)(h1:a<4611686018427300000) :
  ∃ z a',okZone z∧z.Records.length≤24∧a≤a'∧a'≤a+3000∧Kzc 40000 ⟨l,a⟩=some (z,⟨l,a'⟩):=by
 unfold Kzc
 generalize hf:(fun (i1:Nat) (x3:Str) (s2:Kxz×List Kyb)=>_)=f
 obtain⟨r,hr,hI⟩:=Kwm (f:=f) 8 (fun i s=>∃ b,s.1=⟨l,b⟩∧a≤b∧b≤a+300 * i∧s.2.length≤3 * i∧∀ x∈s.2,okRec x) znames 0 (⟨l,a⟩,[]) (by decide) ⟨a,rfl,Int.le_refl _,by omega,by simp,fun p hp=>by cases hp⟩ (by
  rintro j x ⟨s,y⟩ hj ⟨b,rfl,q1,q2,q3,q4⟩ hx
  simp only at q3 q4
  have hxl:=Ksn x hx
  subst hf
  obtain⟨c,hc⟩:=Kwp l b 3 hl (by omega) (by omega) (by decide) (by decide)
  simp only[hc,bi_some]
  cases c with
  | true=>exact⟨_,rfl,b+1,rfl,by omega,by push_cast;omega,by simp only;omega,q4⟩
  | false=>
   obtain⟨n,hn,en⟩:=Kwr l (b+1) [1,1,2,3] hl (by omega) (by omega) (by decide) (by decide)
   have hn3:∀ n∈([1,1,2,3]:List Int),1≤n∧n≤3:=by decide
   obtain⟨n1,n2⟩:=hn3 n hn
   simp only[cond_false,en,bi_some]
   rw[decide_eq_true (show n≤9223372036854775807 by omega),gd_true]
   unfold rangeG
   generalize hg:(fun (i:Nat) (_:Unit) (s:Kxz×List Kyb)=>_)=g
   obtain⟨q,e1,b3,e2,e3,e4,e5,e6⟩:=Kwm (f:=g) 3 (fun i s=>∃ b3,s.1=⟨l,b3⟩∧b≤b3∧b3≤b+2+40 * i∧s.2.length≤i∧∀ x∈s.2,okRec x) (List.replicate n.toNat ()) 0 (⟨l,b+1+1⟩,[]) (by simp;omega) ⟨b+1+1,rfl,by omega,by omega,by simp,fun p hp=>by cases hp⟩ (by
    rintro i u ⟨s,d⟩ hi ⟨b3,rfl,k1,k2,k3,k4⟩ _
    simp only at k3 k4
    subst hg
    obtain⟨r,b4,r1,r2,r3,er⟩:=recD l b3 x hl (by omega) (by omega) hxl
    simp only[er,bi_some]
    have hq:∃ t,(bif ((d.length:Int)==0) then(some true) else(bi (bif (r.Kind != 5) then(bi (getZ d 0) fun x39=>some (x39.Kind != 5)) else(some false)) fun q36=>some q36))=some t:=by
     cases hd:((d.length:Int)==0) with
     | true=>exact⟨_,rfl⟩
     | false=>
      have:(d.length:Int)≠0:=by simpa using hd
      obtain⟨y,_,hy⟩:=Kwq d (r:=0) (by omega) (by omega)
      rw[hy]
      cases (r.Kind != 5)<;>exact⟨_,rfl⟩
    obtain⟨t,ht⟩:=hq
    rw[ht]
    obtain⟨fl,hfl⟩:=Kwp l b4 15 hl (by omega) (by omega) (by decide) (by decide)
    have happ:apd d [r]=some (d++[r]):=Kws (by simp only[List.length_cons,List.length_nil];omega)
    simp only[bi_some,hfl,happ]
    have hall:∀ x∈d++[r],okRec x:=fun x hx=>by
     rcases List.mem_append.1 hx with h | h
     ·exact k4 x h
     ·obtain rfl:=List.mem_singleton.1 h;exact r1
    cases t with
    | true=>exact⟨_,rfl,b4,rfl,by omega,by push_cast;omega,by simp only[List.length_append,List.length_cons,List.length_nil];omega,hall⟩
    | false=>
     cases fl with
     | true=>exact⟨_,rfl,b4+1,rfl,by omega,by push_cast;omega,by simp only[List.length_append,List.length_cons,List.length_nil];omega,hall⟩
     | false=>exact⟨_,rfl,b4+1,rfl,by omega,by push_cast;omega,by simp only;omega,k4⟩)
   obtain⟨qs,qd⟩:=q
   simp only[List.length_replicate] at e4 e5
   simp only at e2 e5 e6
   subst e2
   have hnn:((0+n.toNat:Nat):Int)≤3:=by omega
   obtain⟨sd,s1,s2,s3⟩:=Lip qd (by omega) e6
   obtain⟨cd,b5,c1,c2,c3,c4,c5⟩:=Lir sd l b3 (by omega) s3 hl (by omega) (by omega)
   have happ:apd y cd=some (y++cd):=Kws (by omega)
   rw[e1]
   simp only[bi_some,s1,s2,decide_true,gd_true,c1,happ]
   refine⟨_,rfl,b5,rfl,by omega,by push_cast;omega,by simp only[List.length_append];omega,fun x hx=>?_⟩
   rcases List.mem_append.1 hx with h | h
   ·exact q4 x h
   ·exact c3 x h)
 obtain⟨s,y⟩:=r
 obtain⟨b,e,q1,q2,q3,q4⟩:=hI
 simp only at e q3 q4
 subst e
 have hzl:znames.length=8:=rfl
 rw[hzl] at q2 q3
 unfold znames at hr
 rw[hr]
 obtain⟨c,hc⟩:=Kwp l b 30 hl (by omega) (by omega) (by decide) (by decide)
 simp only[bi_some,hc]
 cases c with
 | false=>exact⟨_,_,⟨by simp,by simp only;omega,q4⟩,by simp only;omega,by omega,by omega,rfl⟩
 | true=>
  obtain⟨d,hd,e1⟩:=Lgl l (b+1) hl (by omega) (by omega)
  simp only[cond_true,e1,bi_some]
  exact⟨_,_,⟨hd,by simp only;omega,q4⟩,by simp only;omega,by omega,by omega,rfl⟩
end Go.Gk.ZZ
