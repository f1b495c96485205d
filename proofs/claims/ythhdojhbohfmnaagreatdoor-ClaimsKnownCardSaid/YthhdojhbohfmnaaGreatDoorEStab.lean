import Derived.Test.YthhdojhbohfmnaaGreatDoorGk52
import Derived.Test.YthhdojhbohfmnaaGreatDoorGk56
set_option linter.all false
set_option maxRecDepth 100000
namespace Go.Gk
section
variable{α:Type}
theorem wiN{n:Nat}(h:n≤4611686018427387904):wi (n:Int)=(n:Int):=w64 (by omega)
theorem Let{n:Nat}(h:n≤4611686018427387904):wi (shrV .u64 (IntKind.u64.wrap (wi (n:Int))) 1)=((n / 2:Nat):Int):=by
 rw[wiN h,show IntKind.u64.wrap (n:Int)=n from by rw[IntKind.wrap_u64];omega]
 unfold shrV
 rw[show min 1 IntKind.u64.bits=1 from rfl,Int.fdiv_eq_ediv_of_nonneg _ (by decide),show((n:Int) / 2 ^ 1)=((n / 2:Nat):Int) by omega,wiN (by omega)]
theorem Kcp(P R S:List α)(x y:α):((P++x :: (R++y :: S)).set P.length y).set (P.length+1+R.length) x=P++y :: (R++x :: S):=by
 rw[List.set_append_right _ _ (by omega),List.set_append_right _ _ (by omega)]
 simp only[Nat.sub_self,List.set_cons_zero,show P.length+1+R.length - P.length=R.length+1 by omega,List.set_cons_succ]
 rw[List.set_append_right _ _ (by omega)]
 simp
theorem Kcq(P R:List α)(x:α):(P++x :: R)[P.length]?=some x:=by simp
theorem Kcr(P R S:List α)(x y:α):(P++x :: (R++y :: S))[P.length+1+R.length]?=some y:=by
 rw[gAr (by omega)]
 simp only[show P.length+1+R.length - P.length=R.length+1 by omega,List.getElem?_cons_succ]
 rw[gAr (by omega)]
 simp
def gSwp(k:Nat)(data:List α)(a:Int)(b:Int)(n:Int):Option (List α):=
 bi (loopM (σ:=(List α)×Int) (ρ:=List α) (fun s2=>bif decide ((s2.2:Int)<n) then(bi (getZ s2.1 (wi (b+s2.2))) fun x12=>bi (getZ s2.1 (wi (a+s2.2))) fun x15=>bi (getZ s2.1 (wi (a+s2.2))) fun x18=>bi (getZ s2.1 (wi (b+s2.2))) fun x21=>bi (getZ (s2.1.set ((wi (a+s2.2)).toNat) x12) (((wi (b+s2.2)).toNat:Nat):Int)) fun x24=>some (.go ((s2.1.set ((wi (a+s2.2)).toNat) x12).set ((wi (b+s2.2)).toNat) x15,wi (s2.2+1)))) else(some (.out s2.1))) k (data,0)) fun q4=>some q4
theorem Kcs(a b n:Nat)(hb:b+n≤1000000)(ha:a+n≤1000000):∀ (X Y:List α) (k:Nat) (P M Q:List α) (i:Nat),X.length+i=n→Y.length+i=n→X.length<k→P.length=a+i→P.length+X.length+M.length=b+i→
  loopM (σ:=(List α)×Int) (ρ:=List α) (fun s2=>bif decide ((s2.2:Int)<(n:Int)) then(bi (getZ s2.1 (wi ((b:Int)+s2.2))) fun x12=>bi (getZ s2.1 (wi ((a:Int)+s2.2))) fun x15=>bi (getZ s2.1 (wi ((a:Int)+s2.2))) fun x18=>bi (getZ s2.1 (wi ((b:Int)+s2.2))) fun x21=>bi (getZ (s2.1.set ((wi ((a:Int)+s2.2)).toNat) x12) (((wi ((b:Int)+s2.2)).toNat:Nat):Int)) fun x24=>some (.go ((s2.1.set ((wi ((a:Int)+s2.2)).toNat) x12).set ((wi ((b:Int)+s2.2)).toNat) x15,wi (s2.2+1)))) else(some (.out s2.1))) k (P++(X++(M++(Y++Q))),(i:Int))=some (P++(Y++(M++(X++Q))))
 | [],Y,0,P,M,Q,i,h1,h2,h3,h4,h5=>absurd h3 (Nat.not_lt_zero _)
 | x :: X,Y,0,P,M,Q,i,h1,h2,h3,h4,h5=>absurd h3 (Nat.not_lt_zero _)
 | [],Y,k+1,P,M,Q,i,h1,h2,h3,h4,h5=>by
  simp only[List.length_nil] at h1
  obtain rfl:Y=[]:=List.eq_nil_of_length_eq_zero (by omega)
  unfold loopM
  simp only
  rw[dF (by omega)]
  rfl
 | x :: X,Y,k+1,P,M,Q,i,h1,h2,h3,h4,h5=>by
  simp only[List.length_cons] at h1 h3 h5
  cases Y with
  | nil=>simp only[List.length_nil] at h2;omega
  | cons y Y=>
   simp only[List.length_cons] at h2
   have e0:P++((x :: X)++(M++((y :: Y)++Q)))=P++x :: ((X++M)++y :: (Y++Q)):=by simp
   have wa:wi ((a:Int)+(i:Int))=(P.length:Int):=by rw[show(a:Int)+(i:Int)=((a+i:Nat):Int) by omega,wiN (by omega),h4]
   have wb:wi ((b:Int)+(i:Int))=((P.length+1+(X++M).length:Nat):Int):=by rw[show(b:Int)+(i:Int)=((b+i:Nat):Int) by omega,wiN (by omega),List.length_append];omega
   unfold loopM
   simp only
   rw[dT (show(i:Int)<(n:Int) by omega),e0,wa,wb]
   simp only[cond_true,getZ_cast,Kcq,Kcr,bi_some,Int.toNat_natCast]
   have e1:((P++x :: ((X++M)++y :: (Y++Q))).set P.length y)[P.length+1+(X++M).length]?=some y:=by
    rw[gSn (by omega)];exact Kcr _ _ _ _ _
   rw[e1]
   simp only[bi_some]
   rw[Kcp,show wi ((i:Int)+1)=((i+1:Nat):Int) by rw[show(i:Int)+1=((i+1:Nat):Int) by omega,wiN (by omega)]]
   have:=Kcs a b n hb ha X Y k (P++[y]) (M++[x]) Q (i+1) (by omega) (by omega) (by omega) (by simp;omega) (by simp;omega)
   rw[show P++y :: ((X++M)++x :: (Y++Q))=(P++[y])++(X++((M++[x])++(Y++Q))) by simp]
   refine Eq.trans ?_ (show some ((P++[y])++(Y++((M++[x])++(X++Q))))=some (P++((y :: Y)++(M++((x :: X)++Q)))) by simp)
   exact this
theorem Kct(k:Nat)(P X M Y Q:List α)(h:X.length=Y.length)(hk:X.length<k)(hl:(P++(X++(M++(Y++Q)))).length≤100000) :
  gSwp k (P++(X++(M++(Y++Q)))) (P.length:Int) ((P.length+X.length+M.length:Nat):Int) (X.length:Int)=some (P++(Y++(M++(X++Q)))):=by
 simp only[List.length_append] at hl
 unfold gSwp
 have:=Kcs P.length (P.length+X.length+M.length) X.length (by omega) (by omega) X Y k P M Q 0 (by omega) (by omega) hk (by omega) (by omega)
 rw[show((0:Nat):Int)=0 from rfl] at this
 rw[this]
 rfl
def gRot(k:Nat)(data:List α)(a:Int)(m:Int)(b:Int):Option (List α):=
 bi (loopM (σ:=(List α)×Int×Int) (ρ:=(List α)×Int) (fun s2=>bif (s2.2.1:Int) != s2.2.2 then(bif decide ((s2.2.1:Int)>s2.2.2) then(bi (gSwp k s2.1 (wi (m - s2.2.1)) m s2.2.2) fun y13=>gd (decide (y13.length=s2.1.length)) (some (.go (y13,wi (s2.2.1 - s2.2.2),s2.2.2)))) else(bi (gSwp k s2.1 (wi (m - s2.2.1)) (wi ((wi (m+s2.2.2)) - s2.2.1)) s2.2.1) fun y18=>gd (decide (y18.length=s2.1.length)) (some (.go (y18,s2.2.1,wi (s2.2.2 - s2.2.1)))))) else(some (.out (s2.1,s2.2.1)))) k (data,wi (m - a),wi (b - m))) fun q4=>bi (gSwp k q4.1 (wi (m - q4.2)) m q4.2) fun y23=>some y23
theorem Kcu{β:Type}{a b:List α}(h:a.length=b.length)(x:Option β):gd (decide (a.length=b.length)) x=x:=by rw[dT h];rfl
theorem Kcv(k0 m:Nat)(hm:m≤100000):∀ (k i j:Nat) (X Y P R:List α),X.length=i→Y.length=j→0<i→0<j→P.length+i=m→i+j≤k→(P++(X++(Y++R))).length≤100000→i+j<k0→
  ∃ (P' X' Y' R':List α),loopM (σ:=(List α)×Int×Int) (ρ:=(List α)×Int) (fun s2=>bif (s2.2.1:Int) != s2.2.2 then(bif decide ((s2.2.1:Int)>s2.2.2) then(bi (gSwp k0 s2.1 (wi ((m:Int) - s2.2.1)) (m:Int) s2.2.2) fun y13=>gd (decide (y13.length=s2.1.length)) (some (.go (y13,wi (s2.2.1 - s2.2.2),s2.2.2)))) else(bi (gSwp k0 s2.1 (wi ((m:Int) - s2.2.1)) (wi ((wi ((m:Int)+s2.2.2)) - s2.2.1)) s2.2.1) fun y18=>gd (decide (y18.length=s2.1.length)) (some (.go (y18,s2.2.1,wi (s2.2.2 - s2.2.1)))))) else(some (.out (s2.1,s2.2.1)))) k (P++(X++(Y++R)),(i:Int),(j:Int))=some (P'++(X'++(Y'++R')),(X'.length:Int))∧
   X'.length=Y'.length∧P'.length+X'.length=m∧P'++(Y'++(X'++R'))=P++(Y++(X++R))∧X'.length≤i
 | 0,i,j,X,Y,P,R,h1,h2,h3,h4,h5,h6,h7,h8=>by omega
 | k+1,i,j,X,Y,P,R,h1,h2,h3,h4,h5,h6,h7,h8=>by
  have hl:=h7
  simp only[List.length_append] at hl
  unfold loopM
  simp only
  have w1:wi ((m:Int) - (i:Int))=(P.length:Int):=by rw[show(m:Int) - (i:Int)=((P.length:Nat):Int) by omega,wiN (by omega)]
  by_cases hij:i=j
  ·have:((i:Int) != (j:Int))=false:=by rw[hij];simp
   rw[this]
   exact⟨P,X,Y,R,by rw[h1];rfl,by omega,by omega,rfl,by omega⟩
  ·have:((i:Int) != (j:Int))=true:=by simp;omega
   rw[this]
   simp only[cond_true]
   by_cases hgt:j<i
   ·rw[dT (show(i:Int)>(j:Int) by omega)]
    simp only[cond_true]
    obtain⟨X1,X2,rfl,hx1⟩:∃ X1 X2,X=X1++X2∧X1.length=j:=⟨X.take j,X.drop j,(List.take_append_drop _ _).symm,by rw[List.length_take];omega⟩
    simp only[List.length_append] at h1 hl
    have hs:=Kct k0 P X1 X2 Y R (by omega) (by omega) (by simp only[List.length_append];omega)
    rw[show P.length+X1.length+X2.length=m by omega,hx1] at hs
    rw[w1,show P++((X1++X2)++(Y++R))=P++(X1++(X2++(Y++R))) by simp,hs]
    simp only[bi_some]
    rw[Kcu (by simp only[List.length_append];omega)]
    simp only
    rw[show wi ((i:Int) - (j:Int))=((i - j:Nat):Int) by rw[show(i:Int) - (j:Int)=((i - j:Nat):Int) by omega,wiN (by omega)]]
    obtain⟨P',X',Y',R',e1,e2,e3,e4,e5⟩:=Kcv k0 m hm k (i - j) j X2 X1 (P++Y) R (by omega) (by omega) (by omega) (by omega) (by simp only[List.length_append];omega) (by omega) (by simp only[List.length_append];omega) (by omega)
    refine⟨P',X',Y',R',?_,e2,e3,?_,by omega⟩
    ·rw[←e1];simp
    ·rw[e4];simp
   ·rw[dF (show ¬ (i:Int)>(j:Int) by omega)]
    simp only[cond_false]
    obtain⟨Y1,Y2,rfl,hy2⟩:∃ Y1 Y2,Y=Y1++Y2∧Y2.length=i:=⟨Y.take (j - i),Y.drop (j - i),(List.take_append_drop _ _).symm,by rw[List.length_drop];omega⟩
    simp only[List.length_append] at h2 hl
    have hs:=Kct k0 P X Y1 Y2 R (by omega) (by omega) (by simp only[List.length_append];omega)
    rw[show P.length+X.length+Y1.length=m+j - i by omega,h1] at hs
    rw[w1,show wi ((m:Int)+(j:Int))=((m+j:Nat):Int) by rw[show(m:Int)+(j:Int)=((m+j:Nat):Int) by omega,wiN (by omega)],show wi (((m+j:Nat):Int) - (i:Int))=((m+j - i:Nat):Int) by rw[show((m+j:Nat):Int) - (i:Int)=((m+j - i:Nat):Int) by omega,wiN (by omega)],
     show P++(X++((Y1++Y2)++R))=P++(X++(Y1++(Y2++R))) by simp,hs]
    simp only[bi_some]
    rw[Kcu (by simp only[List.length_append];omega)]
    simp only
    rw[show wi ((j:Int) - (i:Int))=((j - i:Nat):Int) by rw[show(j:Int) - (i:Int)=((j - i:Nat):Int) by omega,wiN (by omega)]]
    obtain⟨P',X',Y',R',e1,e2,e3,e4,e5⟩:=Kcv k0 m hm k i (j - i) Y2 Y1 P (X++R) (by omega) (by omega) (by omega) (by omega) (by omega) (by omega) (by simp only[List.length_append];omega) (by omega)
    refine⟨P',X',Y',R',?_,e2,e3,?_,e5⟩
    ·rw[←e1]
    ·rw[e4];simp
theorem Kcw(k:Nat)(P X Y R:List α)(hx:0<X.length)(hy:0<Y.length)(hk:X.length+Y.length<k)(hl:(P++(X++(Y++R))).length≤100000) :
  gRot k (P++(X++(Y++R))) (P.length:Int) ((P.length+X.length:Nat):Int) ((P.length+X.length+Y.length:Nat):Int)=some (P++(Y++(X++R))):=by
 have hl':=hl
 simp only[List.length_append] at hl'
 unfold gRot
 obtain⟨P',X',Y',R',e1,e2,e3,e4,e5⟩:=Kcv k (P.length+X.length) (by omega) k X.length Y.length X Y P R rfl rfl hx hy rfl (by omega) hl hk
 rw[show wi (((P.length+X.length:Nat):Int) - (P.length:Int))=(X.length:Int) by rw[show((P.length+X.length:Nat):Int) - (P.length:Int)=(X.length:Int) by omega,wiN (by omega)],
  show wi (((P.length+X.length+Y.length:Nat):Int) - ((P.length+X.length:Nat):Int))=(Y.length:Int) by rw[show((P.length+X.length+Y.length:Nat):Int) - ((P.length+X.length:Nat):Int)=(Y.length:Int) by omega,wiN (by omega)],e1]
 simp only[bi_some]
 have hlen:(P'++(Y'++(X'++R'))).length≤100000:=by rw[e4];simp only[List.length_append];omega
 simp only[List.length_append] at hlen
 have hs:=Kct k P' X' [] Y' R' e2 (by omega) (by simp only[List.length_append,List.length_nil];omega)
 simp only[List.nil_append,List.length_nil,Nat.add_zero] at hs
 rw[show wi (((P.length+X.length:Nat):Int) - (X'.length:Int))=(P'.length:Int) by rw[show((P.length+X.length:Nat):Int) - (X'.length:Int)=(P'.length:Int) by omega,wiN (by omega)],←e3,hs]
 simp only[bi_some]
 rw[e4]
end
end Go.Gk
namespace Go.Gk
open Go.Sort
section
variable{α:Type}{cmp:α→α→Option Int}
structure CmpOk(cmp:α→α→Option Int):Prop where
 tot:∀ x y,∃ r,cmp x y=some r
 swo:SWO (ltO cmp)
theorem CmpOk.ev(H:CmpOk cmp)(x y:α):∃ c,cmp x y=some c∧decide (c<0)=ltO cmp x y:=by
 obtain⟨c,h⟩:=H.tot x y
 exact⟨c,h,by unfold ltO;rw[h];rfl⟩
theorem CmpOk.as(H:CmpOk cmp){x y:α}(h:ltO cmp x y=true):ltO cmp y x=false:=by
 cases h2:ltO cmp y x with
 | false=>rfl
 | true=>have:=H.swo.trans x y x h h2;rw[H.swo.irrefl] at this;cases this
abbrev Srt(cmp:α→α→Option Int)(l:List α):Prop:=l.Pairwise fun x y=>ltO cmp y x=false
def gIns(cmp:α→α→Option Int)(k:Nat)(data:List α)(a:Int)(b:Int):Option (List α):=
 bi (loopM (σ:=(List α)×Int) (ρ:=List α) (fun s2=>bif decide ((s2.2:Int)<b) then(bi (loopM (σ:=(List α)×Int) (ρ:=List α) (fun s13=>bi (bif decide ((s13.2:Int)>a) then(bi (getZ s13.1 s13.2) fun x25=>bi (getZ s13.1 (wi (s13.2 - 1))) fun x28=>bi (cmp x25 x28) fun y31=>some (decide ((y31:Int)<0))) else(some false)) fun q22=>bif q22 then(bi (getZ s13.1 (wi (s13.2 - 1))) fun x35=>bi (getZ s13.1 s13.2) fun x38=>bi (getZ s13.1 s13.2) fun x41=>bi (getZ s13.1 (wi (s13.2 - 1))) fun x44=>bi (getZ (s13.1.set s13.2.toNat x35) (((wi (s13.2 - 1)).toNat:Nat):Int)) fun x47=>some (.go ((s13.1.set s13.2.toNat x35).set ((wi (s13.2 - 1)).toNat) x38,wi (s13.2 - 1)))) else(some (.out s13.1))) k (s2.1,s2.2)) fun q15=>some (.go (q15,wi (s2.2+1)))) else(some (.out s2.1))) k (data,wi (a+1))) fun q4=>some q4
theorem Kcx(A:List α)(p q:α)(X:List α):((A++p :: q :: X).set (A.length+1) p).set A.length q=A++q :: p :: X:=by
 rw[List.set_append_right _ _ (by omega),List.set_append_right _ _ (by omega)]
 simp
theorem Kcy(H:CmpOk cmp)(P:List α){f:(List α)×Int→Option (LS ((List α)×Int) (List α))}
  (hf:∀ s13,f s13=bi (bif decide ((s13.2:Int)>(P.length:Int)) then(bi (getZ s13.1 s13.2) fun x25=>bi (getZ s13.1 (wi (s13.2 - 1))) fun x28=>bi (cmp x25 x28) fun y31=>some (decide ((y31:Int)<0))) else(some false)) fun q22=>bif q22 then(bi (getZ s13.1 (wi (s13.2 - 1))) fun x35=>bi (getZ s13.1 s13.2) fun x38=>bi (getZ s13.1 s13.2) fun x41=>bi (getZ s13.1 (wi (s13.2 - 1))) fun x44=>bi (getZ (s13.1.set s13.2.toNat x35) (((wi (s13.2 - 1)).toNat:Nat):Int)) fun x47=>some (.go ((s13.1.set s13.2.toNat x35).set ((wi (s13.2 - 1)).toNat) x38,wi (s13.2 - 1)))) else(some (.out s13.1))) :
  ∀ (k:Nat) (A B C:List α) (q:α),Srt cmp (A++B)→(∀ b∈B,ltO cmp q b=true)→A.length<k→(P++A).length≤100000→
   ∃ D,loopM f k (P++(A++q :: (B++C)),((P.length+A.length:Nat):Int))=some (P++(D++C))∧Srt cmp D∧D.Perm (A++q :: B)
 | 0,A,B,C,q,_,_,h,_=>absurd h (Nat.not_lt_zero _)
 | k+1,A,B,C,q,hp,hB,hk,hl=>by
  have hl0:=hl
  simp only[List.length_append] at hl0
  have hq:(P++(A++q :: (B++C)))[P.length+A.length]?=some q:=by
   rw[←List.append_assoc,←List.length_append];simp
  unfold loopM
  rw[hf]
  by_cases hA:A=[]
  ·subst hA
   simp only[List.length_nil,Nat.add_zero]
   rw[dF (by omega)]
   refine⟨q :: B,by simp,?_,by simp⟩
   unfold Srt at hp ⊢
   rw[List.pairwise_cons]
   exact⟨fun b hb=>H.as (hB b hb),by simpa using hp⟩
  ·obtain⟨A',p,rfl⟩:∃ a x,A=a++[x]:=⟨A.dropLast,A.getLast hA,(List.dropLast_concat_getLast hA).symm⟩
   have hlen:(A'++[p]).length=A'.length+1:=by simp
   have hst:P++((A'++[p])++q :: (B++C))=(P++A')++p :: q :: (B++C):=by simp
   have hpj:(P++((A'++[p])++q :: (B++C)))[P.length+A'.length]?=some p:=by
    rw[hst,←List.length_append];simp
   have hw:wi (((P.length+(A'++[p]).length:Nat):Int) - 1)=((P.length+A'.length:Nat):Int):=by
    rw[hlen,show((P.length+(A'.length+1):Nat):Int) - 1=((P.length+A'.length:Nat):Int) by omega,wiN (by omega)]
   simp only
   rw[dT (show((P.length+(A'++[p]).length:Nat):Int)>(P.length:Int) by rw[hlen];omega)]
   obtain⟨c,hc1,hc⟩:=H.ev q p
   simp only[cond_true,hw,getZ_cast,hq,hpj,bi_some,hc1]
   cases hlt:ltO cmp q p with
   | true=>
    rw[hc,hlt]
    simp only[cond_true,Int.toNat_natCast,bi_some]
    have e1:((P++((A'++[p])++q :: (B++C))).set (P.length+(A'++[p]).length) p)[P.length+A'.length]?=some p:=by rw[gSn (by rw[hlen];omega)];exact hpj
    rw[e1]
    simp only[bi_some]
    rw[show P.length+(A'++[p]).length=(P++A').length+1 by simp;omega,show P.length+A'.length=(P++A').length by simp,hst,Kcx]
    obtain⟨D,d1,d2,d3⟩:=Kcy H P hf k A' (p :: B) C q (by simpa using hp) (fun b hb=>by
     rcases List.mem_cons.1 hb with rfl | hb
     ·exact hlt
     ·exact hB b hb) (by simp only[hlen] at hk;omega) (by simp only[List.length_append,List.length_singleton] at hl ⊢;omega)
    refine⟨D,?_,d2,d3.trans ?_⟩
    ·rw[←d1];simp
    ·simpa using (List.Perm.swap p q B).append_left A'
   | false=>
    rw[hc,hlt]
    refine⟨(A'++[p])++q :: B,by simp,?_,by simp⟩
    unfold Srt at hp ⊢
    rw[List.pairwise_append] at hp ⊢
    refine⟨hp.1,?_,fun x hx y hy=>?_⟩
    ·rw[List.pairwise_cons]
     exact⟨fun b hb=>H.as (hB b hb),hp.2.1⟩
    ·rcases List.mem_cons.1 hy with rfl | hy
     ·rcases List.mem_append.1 hx with hx | hx
      ·exact H.swo.ntrans _ _ _ hlt ((List.pairwise_append.1 hp.1).2.2 x hx p (by simp))
      ·simp only[List.mem_singleton] at hx
       subst hx;exact hlt
     ·exact hp.2.2 x hx y hy
theorem Kcz(H:CmpOk cmp)(P:List α){f:(List α)×Int→Option (LS ((List α)×Int) (List α))}
  (hf:∀ s13,f s13=bi (bif decide ((s13.2:Int)>(P.length:Int)) then(bi (getZ s13.1 s13.2) fun x25=>bi (getZ s13.1 (wi (s13.2 - 1))) fun x28=>bi (cmp x25 x28) fun y31=>some (decide ((y31:Int)<0))) else(some false)) fun q22=>bif q22 then(bi (getZ s13.1 (wi (s13.2 - 1))) fun x35=>bi (getZ s13.1 s13.2) fun x38=>bi (getZ s13.1 s13.2) fun x41=>bi (getZ s13.1 (wi (s13.2 - 1))) fun x44=>bi (getZ (s13.1.set s13.2.toNat x35) (((wi (s13.2 - 1)).toNat:Nat):Int)) fun x47=>some (.go ((s13.1.set s13.2.toNat x35).set ((wi (s13.2 - 1)).toNat) x38,wi (s13.2 - 1)))) else(some (.out s13.1)))
  (n k1:Nat) (hk1:n<k1) (hn:P.length+n≤100000) {f2:(List α)×Int→Option (LS ((List α)×Int) (List α))}
  (hf2:∀ s2,f2 s2=bif decide ((s2.2:Int)<((P.length+n:Nat):Int)) then(bi (loopM f k1 (s2.1,s2.2)) fun q15=>some (.go (q15,wi (s2.2+1)))) else(some (.out s2.1))) :
  ∀ (k:Nat) (S C Z:List α),Srt cmp S→(S++C).length=n→C.length<k→
   ∃ D,loopM f2 k (P++(S++(C++Z)),((P.length+S.length:Nat):Int))=some (P++(D++Z))∧Srt cmp D∧D.Perm (S++C)
 | 0,S,C,Z,_,_,h=>absurd h (Nat.not_lt_zero _)
 | k+1,S,C,Z,hS,hl,hk=>by
  unfold loopM
  rw[hf2]
  cases C with
  | nil=>
   simp only[List.append_nil] at hl
   simp only
   rw[dF (by omega)]
   exact⟨S,by simp,hS,by simp⟩
  | cons q C=>
   have hl':S.length+(C.length+1)=n:=by simpa using hl
   simp only
   rw[dT (show((P.length+S.length:Nat):Int)<((P.length+n:Nat):Int) by omega)]
   obtain⟨D,d1,d2,d3⟩:=Kcy H P hf k1 S [] (C++Z) q (by simpa using hS) (fun b hb=>by cases hb) (by omega) (by simp;omega)
   simp only[List.nil_append] at d1
   have dl:D.length=S.length+1:=by rw[d3.length_eq];simp
   simp only[cond_true,List.cons_append,d1,bi_some]
   rw[show wi (((P.length+S.length:Nat):Int)+1)=((P.length+D.length:Nat):Int) by rw[show((P.length+S.length:Nat):Int)+1=((P.length+D.length:Nat):Int) by omega,wiN (by omega)]]
   obtain⟨m,m1,m2,m3⟩:=Kcz H P hf n k1 hk1 hn hf2 k D C Z d2 (by simp;omega) (by simp at hk;omega)
   exact⟨m,m1,m2,m3.trans (by simpa using d3.append_right C)⟩
theorem Kda(H:CmpOk cmp)(k:Nat)(P U Z:List α)(hk:U.length+1<k)(hl:(P++U).length≤100000) :
  ∃ W,gIns cmp k (P++(U++Z)) (P.length:Int) ((P.length+U.length:Nat):Int)=some (P++(W++Z))∧Srt cmp W∧W.Perm U:=by
 simp only[List.length_append] at hl
 unfold gIns
 cases U with
 | nil=>
  obtain⟨k,rfl⟩:∃ j,k=j+1:=⟨k - 1,by omega⟩
  refine⟨[],?_,List.Pairwise.nil,.refl _⟩
  unfold loopM
  simp only
  rw[show wi ((P.length:Int)+1)=((P.length+1:Nat):Int) by rw[show(P.length:Int)+1=((P.length+1:Nat):Int) by omega,wiN (by simp at hl;omega)],dF (by simp;omega)]
  rfl
 | cons u U=>
  simp only[List.length_cons] at hk hl
  obtain⟨D,d1,d2,d3⟩:=Kcz H P (fun _=>rfl) (U.length+1) k (by omega) (by omega) (fun _=>rfl) k [u] U Z (by simp[Srt]) (by simp) (by omega)
  refine⟨D,?_,d2,by simpa using d3⟩
  rw[show wi ((P.length:Int)+1)=((P.length + [u].length:Nat):Int) by rw[show(P.length:Int)+1=((P.length+1:Nat):Int) by omega,wiN (by omega)];rfl]
  refine Eq.trans (congrArg (fun x=>bi x fun q4=>some q4) (?_:_=some (P++(D++Z)))) rfl
  exact d1
end
end Go.Gk
namespace Go.Gk
open Go.Sort
section
variable{α:Type}{cmp:α→α→Option Int}
theorem Kdb{σ ρ:Type}{f:σ→Option (LS σ ρ)}(I:σ→Prop)(μ:σ→Nat)(Q:ρ→Prop)(step:∀ s,I s→(∃ r,f s=some (.out r)∧Q r)∨(∃ s',f s=some (.go s')∧I s'∧μ s'<μ s)) :
  ∀ (k:Nat) (s:σ),I s→μ s<k→∃ r,loopM f k s=some r∧Q r
 | 0,s,_,h=>absurd h (Nat.not_lt_zero _)
 | k+1,s,hs,h=>by
  unfold loopM
  rcases step s hs with⟨r,h1,h2⟩ | ⟨s',h1,h2,h3⟩
  ·rw[h1];exact⟨r,rfl,h2⟩
  ·rw[h1];exact Kdb I μ Q step k s' h2 (by omega)
theorem Leu{f:Int×Int→Option (LS (Int×Int) Int)}(lo hi:Nat)(hle:lo≤hi)(hhi:hi≤1000000)(t:Nat→Bool)
  (hf:∀ i j:Nat,lo≤i→i<j→j≤hi→f ((i:Int),(j:Int))=some (.go (if t ((i+j) / 2) then((((i+j) / 2+1:Nat):Int),(j:Int)) else((i:Int),(((i+j) / 2:Nat):Int)))))
  (hf0:∀ i:Nat,f ((i:Int),(i:Int))=some (.out (i:Int))) (k:Nat) (hk:hi - lo<k) :
  ∃ q:Nat,loopM f k ((lo:Int),(hi:Int))=some (q:Int)∧lo≤q∧q≤hi∧(q=lo∨t (q - 1)=true)∧(q=hi∨t q=false):=by
 obtain⟨r,h1,q,rfl,h2⟩:=Kdb (f:=f) (fun s=>∃ i j:Nat,s=((i:Int),(j:Int))∧lo≤i∧i≤j∧j≤hi∧(i=lo∨t (i - 1)=true)∧(j=hi∨t j=false)) (fun s=>(s.2 - s.1).toNat)
  (fun r=>∃ q:Nat,r=(q:Int)∧lo≤q∧q≤hi∧(q=lo∨t (q - 1)=true)∧(q=hi∨t q=false)) (fun s ⟨i,j,e,h1,h2,h3,h4,h5⟩=>by
   subst e
   by_cases hij:i=j
   ·subst hij
    exact .inl ⟨_,hf0 i,i,rfl,h1,h3,h4,h5⟩
   ·refine .inr ⟨_,hf i j h1 (by omega) h3,?_,?_⟩
    ·by_cases ht:t ((i+j) / 2)=true
     ·rw[if_pos ht]
      exact⟨(i+j) / 2+1,j,rfl,by omega,by omega,h3,.inr (by rw[Nat.add_sub_cancel];exact ht),h5⟩
     ·rw[if_neg ht]
      exact⟨i,(i+j) / 2,rfl,h1,by omega,by omega,h4,.inr (by simpa using ht)⟩
    ·by_cases ht:t ((i+j) / 2)=true
     ·rw[if_pos ht];simp only;omega
     ·rw[if_neg ht];simp only;omega) k ((lo:Int),(hi:Int)) ⟨lo,hi,rfl,Nat.le_refl _,hle,Nat.le_refl _,.inl rfl,.inl rfl⟩ (by simp only;omega)
 exact⟨q,h1,h2⟩
theorem Kdc{f:(List α)×Int→Option (LS ((List α)×Int) (List α))}(e:Nat)(he:e≤100000)
  (hf:∀ s25,f s25=bif decide ((s25.2:Int)<(e:Int)) then(bi (getZ s25.1 (wi (s25.2+1))) fun x35=>bi (getZ s25.1 s25.2) fun x38=>bi (getZ s25.1 s25.2) fun x41=>bi (getZ s25.1 (wi (s25.2+1))) fun x44=>bi (getZ (s25.1.set s25.2.toNat x35) (((wi (s25.2+1)).toNat:Nat):Int)) fun x47=>some (.go ((s25.1.set s25.2.toNat x35).set ((wi (s25.2+1)).toNat) x38,wi (s25.2+1)))) else(some (.out s25.1))) :
  ∀ (W:List α) (k:Nat) (P R:List α) (u:α),P.length+W.length=e→W.length<k→loopM f k (P++u :: (W++R),(P.length:Int))=some (P++(W++u :: R))
 | [],0,P,R,u,h1,h2=>absurd h2 (Nat.not_lt_zero _)
 | w :: W,0,P,R,u,h1,h2=>absurd h2 (Nat.not_lt_zero _)
 | [],k+1,P,R,u,h1,h2=>by
  simp only[List.length_nil,Nat.add_zero] at h1
  unfold loopM
  rw[hf]
  simp only
  rw[dF (by omega)]
  rfl
 | w :: W,k+1,P,R,u,h1,h2=>by
  simp only[List.length_cons] at h1 h2
  have g1:(P++u :: ((w :: W)++R))[P.length]?=some u:=by simp
  have g2:(P++u :: ((w :: W)++R))[P.length+1]?=some w:=by rw[gAr (by omega)];simp
  have hw:wi ((P.length:Int)+1)=((P.length+1:Nat):Int):=by rw[show(P.length:Int)+1=((P.length+1:Nat):Int) by omega,wiN (by omega)]
  unfold loopM
  rw[hf]
  simp only
  rw[dT (show(P.length:Int)<(e:Int) by omega),hw]
  simp only[cond_true,getZ_cast,g1,g2,bi_some,Int.toNat_natCast]
  have g3:((P++u :: ((w :: W)++R)).set P.length w)[P.length+1]?=some w:=by rw[gSn (by omega)];exact g2
  rw[g3]
  simp only[bi_some]
  have e1:((P++u :: ((w :: W)++R)).set P.length w).set (P.length+1) u=(P++[w])++u :: (W++R):=by
   rw[List.set_append_right _ _ (by omega),List.set_append_right _ _ (by omega)]
   simp
  rw[e1]
  have:=Kdc e he hf W k (P++[w]) R u (by simp;omega) (by omega)
  rw[show((P++[w]).length:Int)=((P.length+1:Nat):Int) by simp] at this
  rw[this]
  simp
theorem Kdd{f:(List α)×Int→Option (LS ((List α)×Int) (List α))}(P:List α)(hP:P.length≤100000)
  (hf:∀ s76,f s76=bif decide ((s76.2:Int)>(P.length:Int)) then(bi (getZ s76.1 (wi (s76.2 - 1))) fun x86=>bi (getZ s76.1 s76.2) fun x89=>bi (getZ s76.1 s76.2) fun x92=>bi (getZ s76.1 (wi (s76.2 - 1))) fun x95=>bi (getZ (s76.1.set s76.2.toNat x86) (((wi (s76.2 - 1)).toNat:Nat):Int)) fun x98=>some (.go ((s76.1.set s76.2.toNat x86).set ((wi (s76.2 - 1)).toNat) x89,wi (s76.2 - 1)))) else(some (.out s76.1))) :
  ∀ (n k:Nat) (W R:List α) (v:α),W.length=n→n<k→n≤100000→loopM f k (P++(W++v :: R),((P.length+W.length:Nat):Int))=some (P++(v :: (W++R)))
 | n,0,W,R,v,_,h,_=>absurd h (Nat.not_lt_zero _)
 | 0,k+1,W,R,v,h,_,_=>by
  obtain rfl:=List.eq_nil_of_length_eq_zero h
  unfold loopM
  rw[hf]
  simp only[List.length_nil,Nat.add_zero]
  rw[dF (by omega)]
  rfl
 | n+1,k+1,W,R,v,h,h2,h3=>by
  obtain⟨W',w,rfl⟩:∃ a x,W=a++[x]:=⟨W.dropLast,W.getLast (by rintro rfl;cases h),(List.dropLast_concat_getLast (by rintro rfl;cases h)).symm⟩
  have hl:W'.length=n:=by simpa using h
  have hst:P++((W'++[w])++v :: R)=(P++W')++w :: v :: R:=by simp
  have g1:(P++((W'++[w])++v :: R))[(P++W').length+1]?=some v:=by rw[hst,gAr (by omega)];simp
  have g2:(P++((W'++[w])++v :: R))[(P++W').length]?=some w:=by rw[hst];simp
  have hn:P.length+(W'++[w]).length=(P++W').length+1:=by simp;omega
  have hw:wi ((((P++W').length+1:Nat):Int) - 1)=((P++W').length:Int):=by
   rw[show(((P++W').length+1:Nat):Int) - 1=((P++W').length:Int) by omega,wiN (by simp;omega)]
  unfold loopM
  rw[hf,hn]
  simp only
  rw[dT (show(((P++W').length+1:Nat):Int)>(P.length:Int) by simp;omega),hw]
  simp only[cond_true,getZ_cast,g1,g2,bi_some,Int.toNat_natCast]
  have g3:((P++((W'++[w])++v :: R)).set ((P++W').length+1) w)[(P++W').length]?=some w:=by rw[gSn (by omega)];exact g2
  rw[g3]
  simp only[bi_some]
  rw[hst,Kcx]
  have:=Kdd P hP hf n k W' (w :: R) v hl (by omega) (by omega)
  rw[show((P++W').length:Int)=((P.length+W'.length:Nat):Int) by simp,show(P++W')++v :: w :: R=P++(W'++v :: (w :: R)) by simp,this]
  simp
def gSym(cmp:α→α→Option Int):Nat→(List α)→Int→Int→Int→Option (List α)
 | 0,_,_,_,_=>none
 | k+1,data,a,m,b=>bif (wi (m - a):Int)==1 then(bi (loopM (σ:=Int×Int) (ρ:=Int) (fun s3=>bif decide ((s3.1:Int)<s3.2) then(bi (getZ data (wi (shrV .u64 (IntKind.u64.wrap (wi (s3.1+s3.2))) 1))) fun x13=>bi (getZ data a) fun x16=>bi (cmp x13 x16) fun y19=>bif decide ((y19:Int)<0) then(some (.go (wi ((wi (shrV .u64 (IntKind.u64.wrap (wi (s3.1+s3.2))) 1))+1),s3.2))) else(some (.go (s3.1,wi (shrV .u64 (IntKind.u64.wrap (wi (s3.1+s3.2))) 1))))) else(some (.out s3.1))) k (m,b)) fun q5=>bi (loopM (σ:=(List α)×Int) (ρ:=List α) (fun s25=>bif decide ((s25.2:Int)<(wi (q5 - 1))) then(bi (getZ s25.1 (wi (s25.2+1))) fun x35=>bi (getZ s25.1 s25.2) fun x38=>bi (getZ s25.1 s25.2) fun x41=>bi (getZ s25.1 (wi (s25.2+1))) fun x44=>bi (getZ (s25.1.set s25.2.toNat x35) (((wi (s25.2+1)).toNat:Nat):Int)) fun x47=>some (.go ((s25.1.set s25.2.toNat x35).set ((wi (s25.2+1)).toNat) x38,wi (s25.2+1)))) else(some (.out s25.1))) k (data,a)) fun q27=>some q27) else(bif (wi (b - m):Int)==1 then(bi (loopM (σ:=Int×Int) (ρ:=Int) (fun s54=>bif decide ((s54.1:Int)<s54.2) then(bi (getZ data m) fun x64=>bi (getZ data (wi (shrV .u64 (IntKind.u64.wrap (wi (s54.1+s54.2))) 1))) fun x67=>bi (cmp x64 x67) fun y70=>bif !(decide ((y70:Int)<0)) then(some (.go (wi ((wi (shrV .u64 (IntKind.u64.wrap (wi (s54.1+s54.2))) 1))+1),s54.2))) else(some (.go (s54.1,wi (shrV .u64 (IntKind.u64.wrap (wi (s54.1+s54.2))) 1))))) else(some (.out s54.1))) k (a,m)) fun q56=>bi (loopM (σ:=(List α)×Int) (ρ:=List α) (fun s76=>bif decide ((s76.2:Int)>q56) then(bi (getZ s76.1 (wi (s76.2 - 1))) fun x86=>bi (getZ s76.1 s76.2) fun x89=>bi (getZ s76.1 s76.2) fun x92=>bi (getZ s76.1 (wi (s76.2 - 1))) fun x95=>bi (getZ (s76.1.set s76.2.toNat x86) (((wi (s76.2 - 1)).toNat:Nat):Int)) fun x98=>some (.go ((s76.1.set s76.2.toNat x86).set ((wi (s76.2 - 1)).toNat) x89,wi (s76.2 - 1)))) else(some (.out s76.1))) k (data,m)) fun q78=>some q78) else(bi (bif decide ((m:Int)>(wi (shrV .u64 (IntKind.u64.wrap (wi (a+b))) 1))) then(some (wi ((wi ((wi (shrV .u64 (IntKind.u64.wrap (wi (a+b))) 1))+m)) - b),wi (shrV .u64 (IntKind.u64.wrap (wi (a+b))) 1))) else(some (a,m))) fun q103=>bi (loopM (σ:=Int×Int) (ρ:=Int) (fun s108=>bif decide ((s108.1:Int)<s108.2) then(bi (getZ data (wi ((wi ((wi ((wi (shrV .u64 (IntKind.u64.wrap (wi (a+b))) 1))+m)) - 1)) - (wi (shrV .u64 (IntKind.u64.wrap (wi (s108.1+s108.2))) 1))))) fun x118=>bi (getZ data (wi (shrV .u64 (IntKind.u64.wrap (wi (s108.1+s108.2))) 1))) fun x121=>bi (cmp x118 x121) fun y124=>bif !(decide ((y124:Int)<0)) then(some (.go (wi ((wi (shrV .u64 (IntKind.u64.wrap (wi (s108.1+s108.2))) 1))+1),s108.2))) else(some (.go (s108.1,wi (shrV .u64 (IntKind.u64.wrap (wi (s108.1+s108.2))) 1))))) else(some (.out s108.1))) k (q103.1,q103.2)) fun q110=>bi (bif ((decide ((q110:Int)<m))&&(decide ((m:Int)<(wi ((wi ((wi (shrV .u64 (IntKind.u64.wrap (wi (a+b))) 1))+m)) - q110))))) then(bi (gRot k data q110 m (wi ((wi ((wi (shrV .u64 (IntKind.u64.wrap (wi (a+b))) 1))+m)) - q110))) fun y132=>gd (decide (y132.length=data.length)) (some y132)) else(some data)) fun q129=>bi (bif ((decide ((a:Int)<q110))&&(decide ((q110:Int)<(wi (shrV .u64 (IntKind.u64.wrap (wi (a+b))) 1))))) then(bi (gSym cmp k q129 a q110 (wi (shrV .u64 (IntKind.u64.wrap (wi (a+b))) 1))) fun y140=>gd (decide (y140.length=q129.length)) (some y140)) else(some q129)) fun q137=>bif ((decide ((wi (shrV .u64 (IntKind.u64.wrap (wi (a+b))) 1):Int)<(wi ((wi ((wi (shrV .u64 (IntKind.u64.wrap (wi (a+b))) 1))+m)) - q110))))&&(decide ((wi ((wi ((wi (shrV .u64 (IntKind.u64.wrap (wi (a+b))) 1))+m)) - q110):Int)<b))) then(bi (gSym cmp k q137 (wi (shrV .u64 (IntKind.u64.wrap (wi (a+b))) 1)) (wi ((wi ((wi (shrV .u64 (IntKind.u64.wrap (wi (a+b))) 1))+m)) - q110)) b) fun y146=>some y146) else(some q137)))
theorem wiE{x:Int}{n:Nat}(h:x=(n:Int))(hn:n≤4000000):wi x=(n:Int):=by rw[h,wiN (by omega)]
theorem Lev(i j:Nat)(h:i+j≤4000000):wi (shrV .u64 (IntKind.u64.wrap (wi ((i:Int)+(j:Int)))) 1)=(((i+j) / 2:Nat):Int):=by
 rw[show(i:Int)+(j:Int)=((i+j:Nat):Int) by omega,Let (by omega)]
theorem Kde(H:CmpOk cmp){A B:List α}{u:α}(hs:Srt cmp (A++B))(h1:∀ x∈A,ltO cmp u x=false)(h2:∀ x∈B,ltO cmp x u=false):Srt cmp (A++u :: B):=by
 unfold Srt at hs ⊢
 rw[List.pairwise_append] at hs ⊢
 refine⟨hs.1,List.pairwise_cons.2 ⟨h2,hs.2.1⟩,fun x hx y hy=>?_⟩
 rcases List.mem_cons.1 hy with rfl | hy
 ·exact h1 x hx
 exact hs.2.2 x hx y hy
theorem Kdf(H:CmpOk cmp){A:List α}(hs:Srt cmp A){u z:α}(hz:A.getLast?=some z)(h:ltO cmp u z=false):∀ x∈A,ltO cmp u x=false:=by
 obtain⟨A',rfl⟩:∃ A',A=A'++[z]:=by
  have hne:A≠[]:=by rintro rfl;cases hz
  rw[List.getLast?_eq_some_getLast hne] at hz
  exact⟨A.dropLast,by rw[←oSi hz,List.dropLast_concat_getLast]⟩
 unfold Srt at hs
 rw[List.pairwise_append] at hs
 intro x hx
 rcases List.mem_append.1 hx with hx | hx
 ·exact H.swo.ntrans u z x h (hs.2.2 x hx z (by simp))
 simp only[List.mem_singleton] at hx
 subst hx;exact h
theorem Kdg(H:CmpOk cmp){A:List α}(hs:Srt cmp A){u z:α}(hz:A.head?=some z)(h:ltO cmp z u=false):∀ x∈A,ltO cmp x u=false:=by
 cases A with
 | nil=>cases hz
 | cons a A=>
  cases hz
  unfold Srt at hs
  rw[List.pairwise_cons] at hs
  intro x hx
  rcases List.mem_cons.1 hx with rfl | hx
  ·exact h
  exact H.swo.ntrans x z u (hs.1 x hx) h
end
end Go.Gk
namespace Go.Gk
open Go.Sort
section
variable{α β γ:Type}{cmp:α→α→Option Int}
theorem Kdh{x:Option β}{g:β→Option γ}{S:γ→Prop}(R:β→Prop)(h:∃ q,x=some q∧R q)(h2:∀ q,R q→∃ r,g q=some r∧S r):∃ r,bi x g=some r∧S r:=by
 obtain⟨q,rfl,hq⟩:=h
 exact h2 q hq
def ltAt(cmp:α→α→Option Int)(L:List α)(i j:Nat):Bool:=match L[i]?,L[j]? with
 | some x,some y=>ltO cmp x y
 | _,_=>false
theorem Kdi{L:List α}{i j:Nat}{x y:α}(hx:L[i]?=some x)(hy:L[j]?=some y):ltAt cmp L i j=ltO cmp x y:=by unfold ltAt;rw[hx,hy]
theorem Kdj{L:List α}{i:Nat}(h:i<L.length):∃ x,L[i]?=some x:=⟨L[i],gGe h⟩
def Mrg(cmp:α→α→Option Int)(P U V Z r:List α):Prop:=∃ W,r=P++(W++Z)∧Srt cmp W∧W.Perm (U++V)
theorem Lew(H:CmpOk cmp){A B:List α}(hA:Srt cmp A)(hB:Srt cmp B){x y:α}(hx:A.getLast?=some x)(hy:B.head?=some y)(h:ltO cmp y x=false):∀ a∈A,∀ b∈B,ltO cmp b a=false:=fun a ha b hb=>
 Kdf H hA hx (Kdg H hB hy h b hb) a ha
theorem Kdk{l:List α}{i:Nat}{x:α}(h:l[i]?=some x):(l.take (i+1)).getLast?=some x:=by
 rw[List.getLast?_take]
 simp[h]
theorem Kdl{l:List α}{i:Nat}{x:α}(h:l[i]?=some x):(l.drop i).head?=some x:=by rw[List.head?_drop];exact h
set_option maxHeartbeats 4000000 in
theorem Kdm(H:CmpOk cmp):∀ (k:Nat) (P U V Z:List α),0<U.length→0<V.length→Srt cmp U→Srt cmp V→U.length+V.length+1<k→(P++(U++(V++Z))).length≤100000→
  ∃ r,gSym cmp k (P++(U++(V++Z))) (P.length:Int) ((P.length+U.length:Nat):Int) ((P.length+U.length+V.length:Nat):Int)=some r∧Mrg cmp P U V Z r
 | 0,P,U,V,Z,_,_,_,_,h,_=>absurd h (Nat.not_lt_zero _)
 | k+1,P,U,V,Z,hU,hV,sU,sV,hk,hl=>by
  have hl0:=hl
  simp only[List.length_append] at hl0
  generalize hL:P++(U++(V++Z))=L at hl
  have atU:∀ i,i<U.length→L[P.length+i]?=U[i]?:=fun i hi=>by
   rw[←hL,gAr (by omega),Nat.add_sub_cancel_left,gAl hi]
  have atV:∀ i,i<V.length→L[P.length+U.length+i]?=V[i]?:=fun i hi=>by
   rw[←hL,gAr (by omega),show P.length+U.length+i - P.length=U.length+i by omega,gAr (by omega),Nat.add_sub_cancel_left,gAl hi]
  have hLl:L.length=P.length+(U.length+(V.length+Z.length)):=by rw[←hL];simp
  generalize ha:P.length=a at *
  generalize hm:a+U.length=m at *
  generalize hb:m+V.length=b at *
  unfold gSym
  have wma:wi ((m:Int) - (a:Int))=((U.length:Nat):Int):=wiE (by omega) (by omega)
  have wbm:wi ((b:Int) - (m:Int))=((V.length:Nat):Int):=wiE (by omega) (by omega)
  rw[wma,wbm]
  by_cases hU1:U.length=1
  ·
   obtain⟨u,rfl⟩:∃ u,U=[u]:=List.length_eq_one_iff.1 hU1
   rw[show(((([u]:List α).length:Nat):Int)==1)=true by simp]
   simp only[cond_true]
   have hu:L[a]?=some u:=by have:=atU 0 (by simp);simpa using this
   refine Kdh (fun r=>∃ q:Nat,r=(q:Int)∧m≤q∧q≤b∧(q=m∨ltAt cmp L (q - 1) a=true)∧(q=b∨ltAt cmp L q a=false)) ?_ ?_
   ·obtain⟨q,e,h⟩:=Leu (f:=fun s3=>bif decide ((s3.1:Int)<s3.2) then(bi (getZ L (wi (shrV .u64 (IntKind.u64.wrap (wi (s3.1+s3.2))) 1))) fun x13=>bi (getZ L (a:Int)) fun x16=>bi (cmp x13 x16) fun y19=>bif decide ((y19:Int)<0) then(some (.go (wi ((wi (shrV .u64 (IntKind.u64.wrap (wi (s3.1+s3.2))) 1))+1),s3.2))) else(some (.go (s3.1,wi (shrV .u64 (IntKind.u64.wrap (wi (s3.1+s3.2))) 1))))) else(some (.out s3.1)))
     m b (by omega) (by omega) (fun i=>ltAt cmp L i a) (fun i j h1 h2 h3=>by
      simp only
      rw[dT (by omega),Lev i j (by omega)]
      obtain⟨x,hx⟩:=Kdj (L:=L) (i:=(i+j) / 2) (by omega)
      obtain⟨c,c1,c2⟩:=H.ev x u
      simp only[cond_true,getZ_cast,hx,hu,bi_some,c1,c2,Kdi hx hu]
      cases ltO cmp x u with
      | true=>simp only[cond_true,if_true];rw[wiE (show(((i+j) / 2:Nat):Int)+1=(((i+j) / 2+1:Nat):Int) by omega) (by omega)]
      | false=>simp) (fun i=>by simp only;rw[dF (by omega)];rfl) k (by omega)
    exact⟨_,e,q,rfl,h⟩
   ·rintro _ ⟨q,rfl,h1,h2,h3,h4⟩
    simp only[List.length_singleton] at hm hU1
    have hspl:V=V.take (q - m)++V.drop (q - m):=(List.take_append_drop _ _).symm
    have hlt:(V.take (q - m)).length=q - m:=by rw[List.length_take];omega
    have hbub:=Kdc (f:=fun s25=>bif decide ((s25.2:Int)<(wi ((q:Int) - 1))) then(bi (getZ s25.1 (wi (s25.2+1))) fun x35=>bi (getZ s25.1 s25.2) fun x38=>bi (getZ s25.1 s25.2) fun x41=>bi (getZ s25.1 (wi (s25.2+1))) fun x44=>bi (getZ (s25.1.set s25.2.toNat x35) (((wi (s25.2+1)).toNat:Nat):Int)) fun x47=>some (.go ((s25.1.set s25.2.toNat x35).set ((wi (s25.2+1)).toNat) x38,wi (s25.2+1)))) else(some (.out s25.1)))
     (q - 1) (by omega) (fun s=>by rw[wiE (show(q:Int) - 1=((q - 1:Nat):Int) by omega) (by omega)]) (V.take (q - m)) k P (V.drop (q - m)++Z) u (by omega) (by omega)
    refine⟨_,?_,V.take (q - m)++u :: V.drop (q - m),rfl,?_,?_⟩
    ·have e:L=P++u :: (V.take (q - m)++(V.drop (q - m)++Z)):=by
      rw[←hL,←List.append_assoc (V.take _),List.take_append_drop];rfl
     rw[e,←ha]
     refine Eq.trans (congrArg (fun x=>bi x fun q27=>some q27) hbub) ?_
     simp
    ·refine Kde H (by rw[←hspl];exact sV) ?_ ?_
     ·rcases h3 with h3 | h3
      ·rw[show q - m=0 by omega];intro x hx;simp at hx
      ·have hq:q≠m:=by
        rintro rfl
        have hx:L[q - 1]?=some u:=by rw[show q - 1=a by omega];exact hu
        rw[Kdi hx hu,H.swo.irrefl] at h3;cases h3
       obtain⟨x,hx⟩:=Kdj (L:=L) (i:=q - 1) (by omega)
       have hv:=atV (q - 1 - m) (by omega)
       rw[show m+(q - 1 - m)=q - 1 by omega,hx] at hv
       rw[Kdi hx hu] at h3
       refine Kdf H (by unfold Srt at sV ⊢;rw[hspl,List.pairwise_append] at sV;exact sV.1) (z:=x) ?_ (H.as h3)
       have:=Kdk hv.symm
       rwa [show q - 1 - m+1=q - m by omega] at this
     ·rcases h4 with h4 | h4
      ·intro x hx;rw[List.drop_eq_nil_of_le (by omega)] at hx;cases hx
      ·by_cases hqb:q=b
       ·intro x hx;rw[List.drop_eq_nil_of_le (by omega)] at hx;cases hx
       ·obtain⟨x,hx⟩:=Kdj (L:=L) (i:=q) (by omega)
        have hv:=atV (q - m) (by omega)
        rw[show m+(q - m)=q by omega,hx] at hv
        rw[Kdi hx hu] at h4
        exact Kdg H (by unfold Srt at sV ⊢;rw[hspl,List.pairwise_append] at sV;exact sV.2.1) (Kdl hv.symm) h4
    ·have:(V.take (q - m)++u :: V.drop (q - m)).Perm (u :: (V.take (q - m)++V.drop (q - m))):=List.perm_middle
     rw[←hspl] at this
     exact this
  ·rw[show(((U.length:Nat):Int)==1)=false by simp;omega]
   simp only[cond_false]
   by_cases hV1:V.length=1
   ·
    obtain⟨v,rfl⟩:∃ v,V=[v]:=List.length_eq_one_iff.1 hV1
    rw[show(((([v]:List α).length:Nat):Int)==1)=true by simp]
    simp only[cond_true]
    have hv:L[m]?=some v:=by have:=atV 0 (by simp);simpa using this
    refine Kdh (fun r=>∃ q:Nat,r=(q:Int)∧a≤q∧q≤m∧(q=a∨(!ltAt cmp L m (q - 1))=true)∧(q=m∨(!ltAt cmp L m q)=false)) ?_ ?_
    ·obtain⟨q,e,h⟩:=Leu (f:=fun s54=>bif decide ((s54.1:Int)<s54.2) then(bi (getZ L (m:Int)) fun x64=>bi (getZ L (wi (shrV .u64 (IntKind.u64.wrap (wi (s54.1+s54.2))) 1))) fun x67=>bi (cmp x64 x67) fun y70=>bif !(decide ((y70:Int)<0)) then(some (.go (wi ((wi (shrV .u64 (IntKind.u64.wrap (wi (s54.1+s54.2))) 1))+1),s54.2))) else(some (.go (s54.1,wi (shrV .u64 (IntKind.u64.wrap (wi (s54.1+s54.2))) 1))))) else(some (.out s54.1)))
      a m (by omega) (by omega) (fun i=>!ltAt cmp L m i) (fun i j h1 h2 h3=>by
       simp only
       rw[dT (by omega),Lev i j (by omega)]
       obtain⟨x,hx⟩:=Kdj (L:=L) (i:=(i+j) / 2) (by omega)
       obtain⟨c,c1,c2⟩:=H.ev v x
       simp only[cond_true,getZ_cast,hx,hv,bi_some,c1,c2,Kdi hv hx]
       cases ltO cmp v x with
       | false=>simp only[Bool.not_false,cond_true,if_true];rw[wiE (show(((i+j) / 2:Nat):Int)+1=(((i+j) / 2+1:Nat):Int) by omega) (by omega)]
       | true=>simp) (fun i=>by simp only;rw[dF (by omega)];rfl) k (by omega)
     exact⟨_,e,q,rfl,h⟩
    ·rintro _ ⟨q,rfl,h1,h2,h3,h4⟩
     simp only[List.length_singleton] at hb
     have hspl:U=U.take (q - a)++U.drop (q - a):=(List.take_append_drop _ _).symm
     have hlt:(U.take (q - a)).length=q - a:=by rw[List.length_take];omega
     have hbub:=Kdd (f:=fun s76=>bif decide ((s76.2:Int)>(q:Int)) then(bi (getZ s76.1 (wi (s76.2 - 1))) fun x86=>bi (getZ s76.1 s76.2) fun x89=>bi (getZ s76.1 s76.2) fun x92=>bi (getZ s76.1 (wi (s76.2 - 1))) fun x95=>bi (getZ (s76.1.set s76.2.toNat x86) (((wi (s76.2 - 1)).toNat:Nat):Int)) fun x98=>some (.go ((s76.1.set s76.2.toNat x86).set ((wi (s76.2 - 1)).toNat) x89,wi (s76.2 - 1)))) else(some (.out s76.1)))
      (P++U.take (q - a)) (by simp;omega) (fun s=>by rw[show((P++U.take (q - a)).length:Int)=(q:Int) by rw[List.length_append,hlt];omega]) (m - q) k (U.drop (q - a)) Z v (by rw[List.length_drop];omega) (by omega) (by omega)
     refine⟨_,?_,U.take (q - a)++v :: U.drop (q - a),rfl,?_,?_⟩
     ·have e:L=(P++U.take (q - a))++(U.drop (q - a)++v :: Z):=by
       rw[←hL,List.append_assoc P,←List.append_assoc (U.take _),List.take_append_drop];rfl
      rw[show((P++U.take (q - a)).length+(U.drop (q - a)).length)=m by rw[List.length_append,hlt,List.length_drop];omega] at hbub
      rw[e]
      refine Eq.trans (congrArg (fun x=>bi x fun q27=>some q27) hbub) ?_
      simp
     ·refine Kde H (by rw[←hspl];exact sU) ?_ ?_
      ·rcases h3 with h3 | h3
       ·rw[show q - a=0 by omega];intro x hx;simp at hx
       ·by_cases hqa:q=a
        ·rw[show q - a=0 by omega];intro x hx;simp at hx
        ·obtain⟨x,hx⟩:=Kdj (L:=L) (i:=q - 1) (by omega)
         have hw:=atU (q - 1 - a) (by omega)
         rw[show a+(q - 1 - a)=q - 1 by omega,hx] at hw
         rw[Kdi hv hx] at h3
         refine Kdf H (by unfold Srt at sU ⊢;rw[hspl,List.pairwise_append] at sU;exact sU.1) (z:=x) ?_ (by simpa using h3)
         have:=Kdk hw.symm
         rwa [show q - 1 - a+1=q - a by omega] at this
      ·by_cases hqm:q=m
       ·intro x hx;rw[List.drop_eq_nil_of_le (by omega)] at hx;cases hx
       ·rcases h4 with h4 | h4
        ·exact absurd h4 hqm
        ·obtain⟨x,hx⟩:=Kdj (L:=L) (i:=q) (by omega)
         have hw:=atU (q - a) (by omega)
         rw[show a+(q - a)=q by omega,hx] at hw
         rw[Kdi hv hx] at h4
         exact Kdg H (by unfold Srt at sU ⊢;rw[hspl,List.pairwise_append] at sU;exact sU.2.1) (Kdl hw.symm) (H.as (by simpa using h4))
     ·have:(U.take (q - a)++v :: U.drop (q - a)).Perm (v :: (U.take (q - a)++U.drop (q - a))):=List.perm_middle
      rw[←hspl] at this
      exact this.trans (List.perm_append_singleton v U).symm
   ·
    rw[show(((V.length:Nat):Int)==1)=false by simp;omega]
    simp only[cond_false]
    obtain⟨mid,hmid⟩:∃ mid,mid=(a+b) / 2:=⟨_,rfl⟩
    rw[Lev a b (by omega),←hmid]
    have wn:wi ((mid:Int)+(m:Int))=((mid+m:Nat):Int):=wiE (by omega) (by omega)
    have wp:wi (((mid+m:Nat):Int) - 1)=((mid+m - 1:Nat):Int):=wiE (by omega) (by omega)
    rw[wn,wp]
    obtain⟨s0,r0,e0,b1,b2,b3,b4,b5,b6⟩:∃ s0 r0:Nat,(bif decide ((m:Int)>(mid:Int)) then(some (wi (((mid+m:Nat):Int) - (b:Int)),(mid:Int))) else(some ((a:Int),(m:Int))))=some ((s0:Int),(r0:Int))∧a≤s0∧s0≤r0∧r0≤m∧r0≤mid∧(s0=a∨mid+m - s0=b)∧((r0=mid∧mid+m - s0≤b)∨(r0=m∧mid+m - s0≤b)):=by
     by_cases h:mid<m
     ·rw[dT (show(m:Int)>(mid:Int) by omega),wiE (show((mid+m:Nat):Int) - (b:Int)=((mid+m - b:Nat):Int) by omega) (by omega)]
      exact⟨mid+m - b,mid,rfl,by omega,by omega,by omega,by omega,by omega,by omega⟩
     ·rw[dF (show ¬ (m:Int)>(mid:Int) by omega)]
      exact⟨a,m,rfl,by omega,by omega,by omega,by omega,by omega,by omega⟩
    rw[e0]
    simp only[bi_some]
    refine Kdh (fun r=>∃ q:Nat,r=(q:Int)∧s0≤q∧q≤r0∧(q=s0∨(!ltAt cmp L (mid+m - 1 - (q - 1)) (q - 1))=true)∧(q=r0∨(!ltAt cmp L (mid+m - 1 - q) q)=false)) ?_ ?_
    ·obtain⟨q,e,h⟩:=Leu (f:=fun s108=>bif decide ((s108.1:Int)<s108.2) then(bi (getZ L (wi (((mid+m - 1:Nat):Int) - (wi (shrV .u64 (IntKind.u64.wrap (wi (s108.1+s108.2))) 1))))) fun x118=>bi (getZ L (wi (shrV .u64 (IntKind.u64.wrap (wi (s108.1+s108.2))) 1))) fun x121=>bi (cmp x118 x121) fun y124=>bif !(decide ((y124:Int)<0)) then(some (.go (wi ((wi (shrV .u64 (IntKind.u64.wrap (wi (s108.1+s108.2))) 1))+1),s108.2))) else(some (.go (s108.1,wi (shrV .u64 (IntKind.u64.wrap (wi (s108.1+s108.2))) 1))))) else(some (.out s108.1)))
      s0 r0 (by omega) (by omega) (fun i=>!ltAt cmp L (mid+m - 1 - i) i) (fun i j h1 h2 h3=>by
       simp only
       rw[dT (by omega),Lev i j (by omega),wiE (show((mid+m - 1:Nat):Int) - (((i+j) / 2:Nat):Int)=((mid+m - 1 - (i+j) / 2:Nat):Int) by omega) (by omega)]
       obtain⟨x,hx⟩:=Kdj (L:=L) (i:=(i+j) / 2) (by omega)
       obtain⟨y,hy⟩:=Kdj (L:=L) (i:=mid+m - 1 - (i+j) / 2) (by omega)
       obtain⟨c,c1,c2⟩:=H.ev y x
       simp only[cond_true,getZ_cast,hx,hy,bi_some,c1,c2,Kdi hy hx]
       cases ltO cmp y x with
       | false=>simp only[Bool.not_false,cond_true,if_true];rw[wiE (show(((i+j) / 2:Nat):Int)+1=(((i+j) / 2+1:Nat):Int) by omega) (by omega)]
       | true=>simp) (fun i=>by simp only;rw[dF (by omega)];rfl) k (by omega)
     exact⟨_,e,q,rfl,h⟩
    ·rintro _ ⟨q,rfl,h1,h2,h3,h4⟩
     have hend:m≤mid+m - q∧mid+m - q≤b:=by omega
     obtain⟨en,hen⟩:∃ en,en=mid+m - q:=⟨_,rfl⟩
     rw[wiE (show((mid+m:Nat):Int) - (q:Int)=(en:Int) by omega) (by omega)]
     rw[←hen] at hend
     obtain⟨U1,U2,hUU,u1⟩:∃ U1 U2,U=U1++U2∧U1.length=q - a:=⟨U.take (q - a),U.drop (q - a),(List.take_append_drop _ _).symm,by rw[List.length_take];omega⟩
     obtain⟨V1,V2,hVV,v1⟩:∃ V1 V2,V=V1++V2∧V1.length=en - m:=⟨V.take (en - m),V.drop (en - m),(List.take_append_drop _ _).symm,by rw[List.length_take];omega⟩
     have u2:U2.length=m - q:=by have:=congrArg List.length hUU;simp only[List.length_append] at this;omega
     have v2:V2.length=b - en:=by have:=congrArg List.length hVV;simp only[List.length_append] at this;omega
     have sU':=sU;have sV':=sV
     rw[hUU] at sU';rw[hVV] at sV'
     unfold Srt at sU' sV'
     rw[List.pairwise_append] at sU' sV'
     obtain⟨sU1,sU2,cU⟩:=sU'
     obtain⟨sV1,sV2,cV⟩:=sV'
     have cX:∀ x∈U1,∀ y∈V2,ltO cmp y x=false:=by
      by_cases hne:q=s0
      ·rcases b5 with h | h
       ·intro x hx;rw[List.eq_nil_of_length_eq_zero (show U1.length=0 by omega)] at hx;cases hx
       ·intro x hx y hy;rw[List.eq_nil_of_length_eq_zero (show V2.length=0 by omega)] at hy;cases hy
      ·rcases h3 with h3 | h3
       ·exact absurd h3 hne
       ·rw[show mid+m - 1 - (q - 1)=en by omega] at h3
        by_cases hb2:en=b
        ·intro x hx y hy;rw[List.eq_nil_of_length_eq_zero (show V2.length=0 by omega)] at hy;cases hy
        ·obtain⟨x,hx⟩:=Kdj (L:=L) (i:=q - 1) (by omega)
         obtain⟨y,hy⟩:=Kdj (L:=L) (i:=en) (by omega)
         rw[Kdi hy hx] at h3
         have hx':U1.getLast?=some x:=by
          have hw:=atU (q - 1 - a) (by omega)
          rw[show a+(q - 1 - a)=q - 1 by omega,hx,hUU,gAl (by omega)] at hw
          have:=Kdk hw.symm
          rwa [List.take_of_length_le (by omega)] at this
         have hy':V2.head?=some y:=by
          have hw:=atV (en - m) (by omega)
          rw[show m+(en - m)=en by omega,hy,hVV,gAr (by omega),v1,Nat.sub_self] at hw
          rw[List.head?_eq_getElem?,←hw]
         exact Lew H sU1 sV2 hx' hy' (by simpa using h3)
     have cY:∀ y∈V1,∀ x∈U2,ltO cmp x y=false:=by
      by_cases hne:q=r0
      ·rcases b6 with⟨h,_⟩ | ⟨h,_⟩
       ·intro y hy;rw[List.eq_nil_of_length_eq_zero (show V1.length=0 by omega)] at hy;cases hy
       ·intro y hy x hx;rw[List.eq_nil_of_length_eq_zero (show U2.length=0 by omega)] at hx;cases hx
      ·rcases h4 with h4 | h4
       ·exact absurd h4 hne
       ·rw[show mid+m - 1 - q=en - 1 by omega] at h4
        obtain⟨x,hx⟩:=Kdj (L:=L) (i:=q) (by omega)
        obtain⟨y,hy⟩:=Kdj (L:=L) (i:=en - 1) (by omega)
        rw[Kdi hy hx] at h4
        have hx':U2.head?=some x:=by
         have hw:=atU (q - a) (by omega)
         rw[show a+(q - a)=q by omega,hx,hUU,gAr (by omega),u1,Nat.sub_self] at hw
         rw[List.head?_eq_getElem?,←hw]
        have hy':V1.getLast?=some y:=by
         have hw:=atV (en - 1 - m) (by omega)
         rw[show m+(en - 1 - m)=en - 1 by omega,hy,hVV,gAl (by omega)] at hw
         have:=Kdk hw.symm
         rwa [List.take_of_length_le (by omega)] at this
        exact Lew H sV1 sU2 hy' hx' (H.as (by simpa using h4))
     refine Kdh (fun r=>r=P++(U1++(V1++(U2++(V2++Z))))) ?_ ?_
     ·have eL:L=(P++U1)++(U2++(V1++(V2++Z))):=by rw[←hL,hUU,hVV];simp
      by_cases hr:q<m∧m<en
      ·rw[show(decide ((q:Int)<(m:Int))&&decide ((m:Int)<(en:Int)))=true by rw[dT (by omega),dT (by omega)];rfl]
       have hrot:=Kcw k (P++U1) U2 V1 (V2++Z) (by omega) (by omega) (by omega) (by rw[←eL];exact hl)
       rw[show(((P++U1).length:Nat):Int)=(q:Int) by rw[List.length_append];omega,show(((P++U1).length+U2.length:Nat):Int)=(m:Int) by rw[List.length_append];omega,show(((P++U1).length+U2.length+V1.length:Nat):Int)=(en:Int) by rw[List.length_append];omega,←eL] at hrot
       simp only[cond_true,hrot,bi_some]
       rw[Kcu (by rw[eL];simp only[List.length_append];omega)]
       exact⟨_,rfl,by simp⟩
      ·rw[show(decide ((q:Int)<(m:Int))&&decide ((m:Int)<(en:Int)))=false by
        by_cases hq1:q<m
        ·rw[dF (show ¬ (m:Int)<(en:Int) by omega),Bool.and_false]
        ·rw[dF (show ¬ (q:Int)<(m:Int) by omega),Bool.false_and]]
       refine⟨_,rfl,?_⟩
       rw[eL]
       by_cases hq1:q<m
       ·rw[List.eq_nil_of_length_eq_zero (show V1.length=0 by omega)];simp
       ·rw[List.eq_nil_of_length_eq_zero (show U2.length=0 by omega)];simp
     ·rintro _ rfl
      refine Kdh (fun r=>∃ W1,r=P++(W1++(U2++(V2++Z)))∧Srt cmp W1∧W1.Perm (U1++V1)) ?_ ?_
      ·by_cases hr:a<q∧q<mid
       ·rw[show(decide ((a:Int)<(q:Int))&&decide ((q:Int)<(mid:Int)))=true by rw[dT (by omega),dT (by omega)];rfl]
        obtain⟨r,r1,W1,rfl,r2,r3⟩:=Kdm H k P U1 V1 (U2++(V2++Z)) (by omega) (by omega) sU1 sV1 (by omega) (by simp only[List.length_append];omega)
        rw[show((P.length:Nat):Int)=(a:Int) by omega,show((P.length+U1.length:Nat):Int)=(q:Int) by omega,show((P.length+U1.length+V1.length:Nat):Int)=(mid:Int) by omega] at r1
        simp only[cond_true,r1,bi_some]
        rw[Kcu (by have:=r3.length_eq;simp only[List.length_append] at this ⊢;omega)]
        exact⟨_,rfl,W1,rfl,r2,r3⟩
       ·rw[show(decide ((a:Int)<(q:Int))&&decide ((q:Int)<(mid:Int)))=false by
         by_cases hq1:a<q
         ·rw[dF (show ¬ (q:Int)<(mid:Int) by omega),Bool.and_false]
         ·rw[dF (show ¬ (a:Int)<(q:Int) by omega),Bool.false_and]]
        refine⟨_,rfl,U1++V1,by simp,?_,.refl _⟩
        by_cases hq1:a<q
        ·rw[List.eq_nil_of_length_eq_zero (show V1.length=0 by omega),List.append_nil];exact sU1
        ·rw[List.eq_nil_of_length_eq_zero (show U1.length=0 by omega),List.nil_append];exact sV1
      ·rintro _ ⟨W1,rfl,w1,w2⟩
       have wl:W1.length=mid - a:=by have:=w2.length_eq;simp only[List.length_append] at this;omega
       have key:∃ r,(bif (decide ((mid:Int)<(en:Int))&&decide ((en:Int)<(b:Int))) then(bi (gSym cmp k (P++(W1++(U2++(V2++Z)))) (mid:Int) (en:Int) (b:Int)) fun y146=>some y146) else(some (P++(W1++(U2++(V2++Z))))))=some r∧∃ W2,r=P++((W1++W2)++Z)∧Srt cmp W2∧W2.Perm (U2++V2):=by
        by_cases hr:mid<en∧en<b
        ·rw[show(decide ((mid:Int)<(en:Int))&&decide ((en:Int)<(b:Int)))=true by rw[dT (by omega),dT (by omega)];rfl]
         obtain⟨r,r1,W2,rfl,r2,r3⟩:=Kdm H k (P++W1) U2 V2 Z (by omega) (by omega) sU2 sV2 (by omega) (by simp only[List.length_append];omega)
         rw[show(((P++W1).length:Nat):Int)=(mid:Int) by rw[List.length_append];omega,show(((P++W1).length+U2.length:Nat):Int)=(en:Int) by rw[List.length_append];omega,show(((P++W1).length+U2.length+V2.length:Nat):Int)=(b:Int) by rw[List.length_append];omega,List.append_assoc] at r1
         simp only[cond_true,r1,bi_some]
         exact⟨_,rfl,W2,by simp,r2,r3⟩
        ·rw[show(decide ((mid:Int)<(en:Int))&&decide ((en:Int)<(b:Int)))=false by
          by_cases hq1:mid<en
          ·rw[dF (show ¬ (en:Int)<(b:Int) by omega),Bool.and_false]
          ·rw[dF (show ¬ (mid:Int)<(en:Int) by omega),Bool.false_and]]
         refine⟨_,rfl,U2++V2,by simp,?_,.refl _⟩
         by_cases hq1:mid<en
         ·rw[List.eq_nil_of_length_eq_zero (show V2.length=0 by omega),List.append_nil];exact sU2
         ·rw[List.eq_nil_of_length_eq_zero (show U2.length=0 by omega),List.nil_append];exact sV2
       obtain⟨r,k1,W2,rfl,k2,k3⟩:=key
       refine⟨_,k1,W1++W2,rfl,?_,?_⟩
       ·unfold Srt
        rw[List.pairwise_append]
        refine⟨w1,k2,fun x hx y hy=>?_⟩
        rcases List.mem_append.1 (w2.mem_iff.1 hx) with hx | hx
        ·rcases List.mem_append.1 (k3.mem_iff.1 hy) with hy | hy
         ·exact cU x hx y hy
         ·exact cX x hx y hy
        ·rcases List.mem_append.1 (k3.mem_iff.1 hy) with hy | hy
         ·exact cY x hx y hy
         ·exact cV x hx y hy
       ·refine(w2.append k3).trans ?_
        rw[hUU,hVV]
        have h:(V1++(U2++V2)).Perm (U2++(V1++V2)):=by
         rw[←List.append_assoc,←List.append_assoc]
         exact List.perm_append_comm.append_right V2
        simpa using h.append_left U1
end
end Go.Gk
namespace Go.Gk
open Go.Sort
section
variable{α:Type}{cmp:α→α→Option Int}
def gStable(cmp:α→α→Option Int)(k:Nat)(data:List α)(n:Int):Option (List α):=
 bi (loopM (σ:=(List α)×Int×Int) (ρ:=(List α)×Int) (fun s2=>bif decide ((s2.2.2:Int)≤n) then(bi (gIns cmp k s2.1 s2.2.1 s2.2.2) fun y12=>gd (decide (y12.length=s2.1.length)) (some (.go (y12,s2.2.2,wi (s2.2.2+20))))) else(some (.out (s2.1,s2.2.1)))) k (data,0,20)) fun q4=>bi (gIns cmp k q4.1 q4.2 n) fun y17=>gd (decide (y17.length=q4.1.length)) (bi (loopM (σ:=(List α)×Int) (ρ:=List α) (fun s22=>bif decide ((s22.2:Int)<n) then(bi (loopM (σ:=(List α)×Int×Int) (ρ:=(List α)×Int) (fun s33=>bif decide ((s33.2.2:Int)≤n) then(bi (gSym cmp k s33.1 s33.2.1 (wi (s33.2.1+s22.2)) s33.2.2) fun y43=>gd (decide (y43.length=s33.1.length)) (some (.go (y43,s33.2.2,wi (s33.2.2+(wi (2 * s22.2))))))) else(some (.out (s33.1,s33.2.1)))) k (s22.1,0,wi (2 * s22.2))) fun q35=>bif decide ((wi (q35.2+s22.2):Int)<n) then(bi (gSym cmp k q35.1 q35.2 (wi (q35.2+s22.2)) n) fun y49=>gd (decide (y49.length=q35.1.length)) (some (.go (y49,wi (s22.2 * 2))))) else(some (.go (q35.1,wi (s22.2 * 2))))) else(some (.out s22.1))) k (y17,20)) fun q24=>some q24)
theorem Kdn(H:CmpOk cmp)(k:Nat)(l:List α)(hk:60<k)(hl:l.length<40):∃ r,gStable cmp k l (l.length:Int)=some r∧Srt cmp r∧r.Perm l:=by
 obtain⟨k,rfl⟩:∃ j,k=j+1+1:=⟨k - 2,by omega⟩
 unfold gStable
 by_cases h20:l.length<20
 ·refine Kdh (fun r=>r=(l,(0:Int))) ⟨(l,0),?_,rfl⟩ ?_
  ·unfold loopM
   simp only
   rw[dF (by omega)]
   rfl
  rintro _ rfl
  obtain⟨W,w1,w2,w3⟩:=Kda H (k+1+1) [] l [] (by omega) (by simp;omega)
  simp only[List.append_nil,List.nil_append,List.length_nil,Nat.zero_add] at w1
  rw[show((0:Nat):Int)=0 from rfl] at w1
  simp only[w1,bi_some]
  rw[Kcu w3.length_eq]
  unfold loopM
  simp only
  rw[dF (show ¬ (20:Int)<(l.length:Int) by omega)]
  exact⟨W,rfl,w2,w3⟩
 obtain⟨A,B,rfl,hA⟩:∃ A B,l=A++B∧A.length=20:=⟨l.take 20,l.drop 20,(List.take_append_drop _ _).symm,by rw[List.length_take];omega⟩
 simp only[List.length_append,hA] at hl h20 ⊢
 obtain⟨W,w1,w2,w3⟩:=Kda H (k+1+1) [] A B (by omega) (by simp;omega)
 have wl:W.length=20:=by rw[w3.length_eq,hA]
 simp only[List.nil_append,List.length_nil,Nat.zero_add,hA] at w1
 refine Kdh (fun r=>r=(W++B,(20:Int))) ⟨(W++B,20),?_,rfl⟩ ?_
 ·unfold loopM
  simp only
  rw[dT (by omega)]
  rw[show((0:Nat):Int)=0 from rfl,show((20:Nat):Int)=20 from rfl] at w1
  simp only[cond_true,w1,bi_some]
  rw[Kcu (by simp[wl,hA])]
  unfold loopM
  simp only
  rw[show wi (20+20)=40 from by decide,dF (by omega)]
  rfl
 rintro _ rfl
 obtain⟨X,x1,x2,x3⟩:=Kda H (k+1+1) W B [] (by omega) (by simp[wl];omega)
 have xl:X.length=B.length:=x3.length_eq
 simp only[List.append_nil,wl] at x1
 rw[show((20:Nat):Int)=20 from rfl] at x1
 simp only[x1,bi_some]
 rw[Kcu (by simp[xl])]
 have hp:(W++X).Perm (A++B):=w3.append x3
 by_cases hB:B.length=0
 ·have e:X=[]:=List.eq_nil_of_length_eq_zero (by omega)
  subst e
  unfold loopM
  simp only
  rw[dF (show ¬ (20:Int)<((20+B.length:Nat):Int) by omega)]
  exact⟨W++[],rfl,by simpa using w2,hp⟩
 obtain⟨r,r1,Y,rfl,r2,r3⟩:=Kdm H (k+1+1) [] W X [] (by omega) (by omega) w2 x2 (by omega) (by simp;omega)
 simp only[List.append_nil,List.nil_append,List.length_nil,Nat.zero_add,wl,xl] at r1
 rw[show((0:Nat):Int)=0 from rfl,show((20:Nat):Int)=20 from rfl] at r1
 refine Kdh (fun r=>r=Y) ⟨Y,?_,rfl⟩ ?_
 ·unfold loopM
  simp only
  rw[dT (show(20:Int)<((20+B.length:Nat):Int) by omega)]
  simp only[cond_true]
  rw[show(loopM (σ:=(List α)×Int×Int) (ρ:=(List α)×Int) (fun s33=>bif decide ((s33.2.2:Int)≤((20+B.length:Nat):Int)) then(bi (gSym cmp (k+1+1) s33.1 s33.2.1 (wi (s33.2.1+20)) s33.2.2) fun y43=>gd (decide (y43.length=s33.1.length)) (some (.go (y43,s33.2.2,wi (s33.2.2+(wi (2 * 20))))))) else(some (.out (s33.1,s33.2.1)))) (k+1+1) (W++X,0,wi (2 * 20)))=some (W++X,0) by
   unfold loopM
   simp only
   rw[show wi (2 * 20)=40 from by decide,dF (by omega)]
   rfl]
  simp only[bi_some]
  rw[show wi ((0:Int)+20)=20 from by decide,dT (show(20:Int)<((20+B.length:Nat):Int) by omega)]
  simp only[cond_true,r1,bi_some]
  rw[Kcu (by have:=r3.length_eq;simpa using this)]
  unfold loopM
  simp only
  rw[show wi (20 * 2)=40 from by decide,dF (by omega)]
  rfl
 rintro _ rfl
 exact⟨_,rfl,r2,r3.trans hp⟩
end
end Go.Gk
namespace Go.Gk
open Go.Sort
section
variable{α:Type}{cmp:α→α→Option Int}
theorem Kdo(H:CmpOk cmp)(k:Nat)(A B C:List α)(hk:100<k)(hA:A.length=20)(hB:B.length=20)(hC:C.length<20) :
  ∃ r,gStable cmp k (A++(B++C)) (((40+C.length:Nat)):Int)=some r∧Srt cmp r∧r.Perm (A++(B++C)):=by
 obtain⟨k,rfl⟩:∃ j,k=j+1+1+1:=⟨k - 3,by omega⟩
 unfold gStable
 obtain⟨W,w1,w2,w3⟩:=Kda H (k+1+1+1) [] A (B++C) (by omega) (by simp;omega)
 have wl:W.length=20:=by rw[w3.length_eq,hA]
 obtain⟨X,x1,x2,x3⟩:=Kda H (k+1+1+1) W B C (by omega) (by simp;omega)
 have xl:X.length=20:=by rw[x3.length_eq,hB]
 obtain⟨Y,y1,y2,y3⟩:=Kda H (k+1+1+1) (W++X) C [] (by omega) (by simp;omega)
 have yl:Y.length=C.length:=y3.length_eq
 simp only[List.nil_append,List.length_nil,Nat.zero_add,hA] at w1
 simp only[wl,hB] at x1
 simp only[List.append_nil,List.length_append,wl,xl] at y1
 rw[show((0:Nat):Int)=0 from rfl,show((20:Nat):Int)=20 from rfl] at w1
 rw[show((20:Nat):Int)=20 from rfl,show((20+20:Nat):Int)=40 from rfl] at x1
 rw[show((20+20:Nat):Int)=40 from rfl] at y1
 have hp:(W++(X++Y)).Perm (A++(B++C)):=w3.append (x3.append y3)
 refine Kdh (fun r=>r=(W++(X++C),(40:Int))) ⟨(W++(X++C),40),?_,rfl⟩ ?_
 ·unfold loopM
  simp only
  rw[dT (show(20:Int)≤((40+C.length:Nat):Int) by omega)]
  simp only[cond_true,w1,bi_some]
  rw[Kcu (by simp[wl,hA])]
  unfold loopM
  simp only
  rw[show wi (20+20)=40 from by decide,dT (show(40:Int)≤((40+C.length:Nat):Int) by omega)]
  simp only[cond_true,x1,bi_some]
  rw[Kcu (by simp[xl,hB])]
  unfold loopM
  simp only
  rw[show wi (40+20)=60 from by decide,dF (show ¬ (60:Int)≤((40+C.length:Nat):Int) by omega)]
  rfl
 ·rintro _ rfl
  have y1':gIns cmp (k+1+1+1) (W++(X++C)) 40 ((40+C.length:Nat):Int)=some (W++(X++Y)):=by rw[←List.append_assoc,←List.append_assoc];exact y1
  simp only[y1',bi_some]
  rw[Kcu (by simp[yl])]
  obtain⟨r,r1,V,rfl,r2,r3⟩:=Kdm H (k+1+1+1) [] W X Y (by omega) (by omega) w2 x2 (by omega) (by simp;omega)
  simp only[List.nil_append,List.length_nil,Nat.zero_add,wl,xl] at r1
  rw[show((0:Nat):Int)=0 from rfl,show((20:Nat):Int)=20 from rfl,show((20+20:Nat):Int)=40 from rfl] at r1
  have vl:V.length=40:=by rw[r3.length_eq,List.length_append,wl,xl]
  have first:loopM (σ:=(List α)×Int×Int) (ρ:=(List α)×Int) (fun s33=>bif decide ((s33.2.2:Int)≤((40+C.length:Nat):Int)) then(bi (gSym cmp (k+1+1+1) s33.1 s33.2.1 (wi (s33.2.1+20)) s33.2.2) fun y43=>gd (decide (y43.length=s33.1.length)) (some (.go (y43,s33.2.2,wi (s33.2.2+(wi (2 * 20))))))) else(some (.out (s33.1,s33.2.1)))) (k+1+1+1) (W++(X++Y),0,wi (2 * 20))=some (V++Y,40):=by
   unfold loopM
   simp only
   rw[show wi (2 * 20)=40 from by decide,dT (show(40:Int)≤((40+C.length:Nat):Int) by omega),show wi ((0:Int)+20)=20 from by decide]
   simp only[cond_true,r1,bi_some]
   rw[Kcu (by simp[vl,wl,xl];omega)]
   unfold loopM
   simp only
   rw[show wi (40+40)=80 from by decide,dF (show ¬ (80:Int)≤((40+C.length:Nat):Int) by omega)]
   rfl
  by_cases h0:C.length=0
  ·have e:Y=[]:=List.eq_nil_of_length_eq_zero (by omega)
   subst e
   refine Kdh (fun r=>r=V++[]) ⟨V++[],?_,rfl⟩ ?_
   ·unfold loopM
    simp only
    rw[dT (show(20:Int)<((40+C.length:Nat):Int) by omega)]
    simp only[cond_true]
    rw[first]
    simp only[bi_some]
    rw[show wi ((40:Int)+20)=60 from by decide,dF (show ¬ (60:Int)<((40+C.length:Nat):Int) by omega)]
    simp only[cond_false]
    unfold loopM
    simp only
    rw[show wi (20 * 2)=40 from by decide,dF (show ¬ (40:Int)<((40+C.length:Nat):Int) by omega)]
    rfl
   ·rintro _ rfl
    refine⟨_,rfl,by simpa using r2,?_⟩
    refine List.Perm.trans ?_ hp
    rw[←List.append_assoc]
    exact r3.append_right _
  ·obtain⟨q,q1,U,rfl,q2,q3⟩:=Kdm H (k+1+1+1) [] V Y [] (by omega) (by omega) r2 y2 (by omega) (by simp;omega)
   simp only[List.append_nil,List.nil_append,List.length_nil,Nat.zero_add,vl,yl] at q1
   rw[show((0:Nat):Int)=0 from rfl,show((40:Nat):Int)=40 from rfl] at q1
   have second:loopM (σ:=(List α)×Int×Int) (ρ:=(List α)×Int) (fun s33=>bif decide ((s33.2.2:Int)≤((40+C.length:Nat):Int)) then(bi (gSym cmp (k+1+1+1) s33.1 s33.2.1 (wi (s33.2.1+40)) s33.2.2) fun y43=>gd (decide (y43.length=s33.1.length)) (some (.go (y43,s33.2.2,wi (s33.2.2+(wi (2 * 40))))))) else(some (.out (s33.1,s33.2.1)))) (k+1+1+1) (V++Y,0,wi (2 * 40))=some (V++Y,0):=by
    unfold loopM
    simp only
    rw[show wi (2 * 40)=80 from by decide,dF (show ¬ (80:Int)≤((40+C.length:Nat):Int) by omega)]
    rfl
   refine Kdh (fun r=>r=U) ⟨U,?_,rfl⟩ ?_
   ·unfold loopM
    simp only
    rw[dT (show(20:Int)<((40+C.length:Nat):Int) by omega)]
    simp only[cond_true]
    rw[first]
    simp only[bi_some]
    rw[show wi ((40:Int)+20)=60 from by decide,dF (show ¬ (60:Int)<((40+C.length:Nat):Int) by omega)]
    simp only[cond_false]
    rw[show wi (20 * 2)=40 from by decide]
    unfold loopM
    simp only
    rw[dT (show(40:Int)<((40+C.length:Nat):Int) by omega)]
    simp only[cond_true]
    rw[second]
    simp only[bi_some]
    rw[show wi ((0:Int)+40)=40 from by decide,dT (show(40:Int)<((40+C.length:Nat):Int) by omega)]
    simp only[cond_true,q1,bi_some]
    rw[Kcu (by have:=q3.length_eq;simpa using this)]
    unfold loopM
    simp only
    rw[show wi (40 * 2)=80 from by decide,dF (show ¬ (80:Int)<((40+C.length:Nat):Int) by omega)]
    rfl
   ·rintro _ rfl
    refine⟨_,rfl,q2,q3.trans (List.Perm.trans ?_ hp)⟩
    rw[←List.append_assoc]
    exact r3.append_right _
theorem Kdp(H:CmpOk cmp)(k:Nat)(l:List α)(hk:100<k)(hl:l.length<60):∃ r,gStable cmp k l (l.length:Int)=some r∧Srt cmp r∧r.Perm l:=by
 by_cases h:l.length<40
 ·exact Kdn H k l (by omega) h
 have e:l=l.take 20++((l.drop 20).take 20++(l.drop 20).drop 20):=by rw[List.take_append_drop,List.take_append_drop]
 have h:=Kdo H k (l.take 20) ((l.drop 20).take 20) ((l.drop 20).drop 20) hk (by simp;omega) (by simp;omega) (by simp;omega)
 rw[←e,show(40+((l.drop 20).drop 20).length)=l.length by simp;omega] at h
 exact h
end
end Go.Gk
