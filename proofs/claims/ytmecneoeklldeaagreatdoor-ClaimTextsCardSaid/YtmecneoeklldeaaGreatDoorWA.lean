import Derived.Test.YtmecneoeklldeaaGreatDoorCLex
import Derived.Lib.ReplaceLaws
set_option linter.all false
set_option maxRecDepth 100000
namespace Go.Gk
def wordP(t:Kxe)(s:Str)(s2:List Int×Int):Option (LS ((List Int)×Int) ((List Int) ⊕ Kxe)):=bif decide ((s2.2:Int)<(s.length:Int)) then(bi (getZ s s2.2) fun c12=>bi (bif ((c12.toNat:Int):Int)==34 then(bi (strB s2.1) fun y18=>bi (bi (some (⟨[118,97,108,117,101],t.v_at,wi (s2.2+1),t.name,(⟨2,0,y18,(0,0,0,0)⟩:Kxc)⟩:Kxe)) fun v=>some (.out (.inr v))) fun v=>some (.inr v)) else(bif ((decide (((c12.toNat:Int):Int)<32))||(decide (((c12.toNat:Int):Int)>126))) then(bi (bi (some t) fun v=>some (.out (.inr v))) fun v=>some (.inr v)) else(bif ((c12.toNat:Int):Int)==92 then(bi (bif (wi (s2.2+1):Int)==(s.length:Int) then(some true) else(bi (getZ s (wi (s2.2+1))) fun c36=>bi (bif ((c36.toNat:Int):Int) != 34 then(bi (getZ s (wi (s2.2+1))) fun c41=>some (((c41.toNat:Int):Int) != 92)) else(some false)) fun q38=>some q38)) fun q32=>bif q32 then(bi (bi (some t) fun v=>some (.out (.inr v))) fun v=>some (.inr v)) else(bi (getZ s (wi (s2.2+1))) fun c50=>some (.inl (wi (s2.2+1),(c50.toNat:Int))))) else(some (.inl (s2.2,(c12.toNat:Int)))))):Option ((Int×Int) ⊕ (LS ((List Int)×Int) ((List Int) ⊕ Kxe)))) fun q=>orI q fun a16=>bi (apd s2.1 [a16.2]) fun y53=>some (.go (y53,wi (a16.1+1)))) else(some (.out (.inl s2.1)))
def wordR(s:Str)(s2:Str×Int):Option (LS (Str×Int) (Unit ⊕ (Str×Int))):=bif decide ((s2.2:Int)<(s.length:Int)) then(bi (getZ s s2.2) fun c12=>bif ((c12.toNat:Int):Int)==34 then(bi (some (s2.1,wi (s2.2+1))) fun v=>some (.out (.inr v))) else(bif ((c12.toNat:Int):Int)==92 then(bi (bif decide ((wi (s2.2+1):Int)≥(s.length:Int)) then(some true) else(bi (getZ s (wi (s2.2+1))) fun c23=>bi (bif ((c23.toNat:Int):Int) != 34 then(bi (getZ s (wi (s2.2+1))) fun c28=>some (((c28.toNat:Int):Int) != 92)) else(some false)) fun q25=>some q25)) fun q19=>bif q19 then(bi (some ([],0)) fun v=>some (.out (.inr v))) else(bi (subZ s (wi (s2.2+1)) (wi ((wi (s2.2+1))+1))) fun z35=>bi (catZ s2.1 z35) fun y37=>some (.go (y37,wi ((wi (s2.2+1))+1))))) else(bi (Kyo (wi ((c12.toNat:Int))) 32 126) fun y40=>bif !y40 then(bi (some ([],0)) fun v=>some (.out (.inr v))) else(bi (subZ s s2.2 (wi (s2.2+1))) fun z46=>bi (catZ s2.1 z46) fun y48=>some (.go (y48,wi (s2.2+1))))))) else(some (.out (.inl ())))
theorem Kuh(k:Nat)(t:Kxe)(s:Str):Kze k t s=bi (loopM (wordP t s) k ([],wi (t.v_at+1))) fun q=>orI q fun a6=>some t:=rfl
theorem Kui(k:Nat)(s:Str):Kzq k s=bi (loopM (wordR s) k ([],1)) fun q=>orI q fun a6=>some ([],0):=rfl
theorem Kuj:∀ s:Str,strB (s.map fun b=>(b.toNat:Int))=some s
 | []=>rfl
 | b :: s=>by
  have h:=b.toNat_lt
  simp only[List.map_cons,strB]
  rw[dT (show(0:Int)≤(b.toNat:Int) by omega),dT (show(b.toNat:Int)<256 by omega),Kuj s]
  simp
def rpQ(s:Str):Str:=s.flatMap fun c=>if c=92 then[92,92] else if c=34 then[92,34] else[c]
theorem Kuk(a b:Str):rpQ (a++b)=rpQ a++rpQ b:=List.flatMap_append
def tBad(a:Nat):Kxe:=⟨kBad,(a:Int),0,[],zA⟩
def WQ(a:Nat)(z:Str)(r:(List Int) ⊕ Kxe)(q:Unit ⊕ (Str×Int)):Prop:=
 (∃ (w:Str) (n:Nat),r=.inr ⟨kVal,(a:Int),((a+n:Nat):Int),[],⟨2,0,w,(0,0,0,0)⟩⟩∧q=.inr (w,(n:Int))∧0<n∧n≤z.length∧w.length≤50000∧(z.drop 1).take (n - 1)=rpQ w++[34])∨
  ((r=.inr (tBad a)∨∃ l,r=.inl l)∧(q=.inr ([],0)∨q=.inl ()))
def WI(a:Nat)(z:Str)(s2:List Int×Int)(t2:Str×Int):Prop:=∃ i:Nat,1≤i∧i≤z.length∧s2.2=((a+i:Nat):Int)∧t2.2=(i:Int)∧s2.1=t2.1.map (fun b=>(b.toNat:Int))∧t2.1.length≤i∧(z.drop 1).take (i - 1)=rpQ t2.1
theorem Kul{z:Str}{i:Nat}{c:UInt8}(h1:1≤i)(hc:z[i]?=some c):(z.drop 1).take (i+1 - 1)=(z.drop 1).take (i - 1)++[c]:=by
 obtain⟨j,rfl⟩:∃ j,i=j+1:=⟨i - 1,by omega⟩
 rw[show j+1+1 - 1=j+1 by omega,show j+1 - 1=j by omega,List.take_add_one,List.getElem?_drop,Nat.add_comm 1 j,hc]
 rfl
theorem Kum(s:Str)(a:Nat)(hs:s.length≤50000)(ha:a≤s.length)(s2:List Int×Int)(t2:Str×Int)(h:WI a (s.drop a) s2 t2) :
  (∃ r q,wordP (tBad a) s s2=some (.out r)∧wordR (s.drop a) t2=some (.out q)∧WQ a (s.drop a) r q)∨(∃ s' t',wordP (tBad a) s s2=some (.go s')∧wordR (s.drop a) t2=some (.go t')∧WI a (s.drop a) s' t'∧(s.length - s'.2.toNat)<s.length - s2.2.toNat):=by
 obtain⟨l1,i1⟩:=s2
 obtain⟨l2,i2⟩:=t2
 obtain⟨i,h1,h2,h3,h4,h5,h6,h7⟩:=h
 simp only at h3 h4 h5 h6 h7
 subst h3 h4 h5
 have hl:(s.drop a).length=s.length - a:=List.length_drop
 unfold wordP wordR
 simp only
 by_cases he:i<(s.drop a).length
 ·obtain⟨c,hc⟩:∃ c,(s.drop a)[i]?=some c:=⟨_,gGe he⟩
  have hcs:s[a+i]?=some c:=by rw[←Kay];exact hc
  have hlt:=c.toNat_lt
  rw[dT (show((a+i:Nat):Int)<(s.length:Int) by omega),dT (show((i:Nat):Int)<((s.drop a).length:Int) by omega)]
  have w1:wi (((a+i:Nat):Int)+1)=((a+(i+1):Nat):Int):=by rw[Kss (by omega) (by omega)];omega
  have w2:wi ((i:Int)+1)=((i+1:Nat):Int):=by rw[Kss (by omega) (by omega)];omega
  rw[Kth hcs,Kth hc]
  simp only[cond_true,bi_some,w1,w2]
  rw[show((c.toNat:Int)==34)=(c==34) from Kaq c 34 (by decide),show((c.toNat:Int)==92)=(c==92) from Kaq c 92 (by decide)]
  cases h34:(c==34) with
  | true=>
   refine .inl ⟨_,_,by rw[Kuj];rfl,rfl,.inl ⟨l2,i+1,rfl,rfl,by omega,by omega,by omega,by rw[Kul h1 hc,h7,eq_of_beq h34]⟩⟩
  | false=>
   simp only[cond_false]
   cases h92:(c==92) with
   | true=>
    obtain rfl:c=92:=eq_of_beq h92
    rw[show(decide ((((92:UInt8).toNat:Int):Int)<32)||decide ((((92:UInt8).toNat:Int):Int)>126))=false from rfl]
    simp only[cond_false,cond_true]
    by_cases hn:i+1<(s.drop a).length
    ·obtain⟨d,hd⟩:∃ d,(s.drop a)[i+1]?=some d:=⟨_,gGe hn⟩
     have hds:s[a+(i+1)]?=some d:=by rw[←Kay];exact hd
     have w3:wi (((i+1:Nat):Int)+1)=((i+1+1:Nat):Int):=by rw[Kss (by omega) (by omega)];omega
     have w4:wi (((a+(i+1):Nat):Int)+1)=((a+(i+1+1):Nat):Int):=by rw[Kss (by omega) (by omega)];omega
     rw[show((((a+(i+1):Nat):Int):Int)==(s.length:Int))=false by
      have:((a+(i+1):Nat):Int)≠(s.length:Int):=by omega
      simpa using this]
     rw[dF (show ¬ ((i+1:Nat):Int)≥((s.drop a).length:Int) by omega)]
     rw[Kth hds,Kth hd]
     simp only[cond_false,bi_some,w3]
     rw[show((d.toNat:Int) != 34)=(d != 34) by unfold bne;rw[show((d.toNat:Int)==34)=(d==34) from Kaq d 34 (by decide)],show((d.toNat:Int) != 92)=(d != 92) by unfold bne;rw[show((d.toNat:Int)==92)=(d==92) from Kaq d 92 (by decide)]]
     have hok:(d=34∨d=92)→∃ s' t',(orI (.inl (((a+(i+1):Nat):Int),(d.toNat:Int)):(Int×Int) ⊕ (LS ((List Int)×Int) ((List Int) ⊕ Kxe))) fun a16=>bi (apd (l2.map fun b=>(b.toNat:Int)) [a16.2]) fun y53=>some (.go (y53,wi (a16.1+1))))=some (.go s')∧
       (bi (subZ (s.drop a) ((i+1:Nat):Int) ((i+1+1:Nat):Int)) fun z35=>bi (catZ l2 z35) fun y37=>some (LS.go (ρ:=Unit ⊕ (Str×Int)) (y37,((i+1+1:Nat):Int))))=some (.go t')∧WI a (s.drop a) s' t'∧(s.length - s'.2.toNat)<s.length - ((a+i:Nat):Int).toNat:=by
      intro hdd
      refine⟨_,_,by rw[orI_inl,Ksy (by simp;omega),bi_some,w4],by rw[show((i+1+1:Nat):Int)=(((i+1)+1:Nat):Int) from rfl,Kbd (by omega),bi_some,Kcp (by rw[List.length_take];omega),bi_some],?_,?_⟩
      ·refine⟨i+1+1,by omega,by omega,rfl,rfl,?_,?_,?_⟩
       ·have:((s.drop a).drop (i+1)).take 1=[d]:=by
         rw[List.drop_eq_getElem_cons hn]
         have:=gGe hn
         rw[hd] at this
         rw[←oSi this]
         rfl
        simp only[this,List.map_append,List.map_cons,List.map_nil]
       ·simp only[List.length_append,List.length_take];omega
       ·have hd1:((s.drop a).drop (i+1)).take 1=[d]:=by
         rw[List.drop_eq_getElem_cons hn]
         have:=gGe hn
         rw[hd] at this
         rw[←oSi this]
         rfl
        simp only[hd1]
        rw[Kul (by omega) hd,Kul h1 hc,h7,Kuk]
        rcases hdd with rfl | rfl
        ·simp[rpQ]
        ·simp[rpQ]
      ·simp only;omega
     cases hd34:(d != 34) with
     | false=>
      obtain⟨s',t',g1,g2,g3,g4⟩:=hok (.inl (by simpa using hd34))
      exact .inr ⟨s',t',by simpa using g1,by simpa using g2,g3,g4⟩
     | true=>
      cases hd92:(d != 92) with
      | false=>
       obtain⟨s',t',g1,g2,g3,g4⟩:=hok (.inr (by simpa using hd92))
       exact .inr ⟨s',t',by simpa using g1,by simpa using g2,g3,g4⟩
      | true=>exact .inl ⟨_,_,rfl,rfl,.inr ⟨.inl rfl,.inl rfl⟩⟩
    ·rw[show((((a+(i+1):Nat):Int):Int)==(s.length:Int))=true by
      have:((a+(i+1):Nat):Int)=(s.length:Int):=by omega
      simpa using this]
     rw[dT (show((i+1:Nat):Int)≥((s.drop a).length:Int) by omega)]
     exact .inl ⟨_,_,rfl,rfl,.inr ⟨.inl rfl,.inl rfl⟩⟩
   | false=>
    simp only[cond_false,Kyo,bi_some]
    rw[Kss (show -9223372036854775808≤(c.toNat:Int) by omega) (by omega)]
    rw[show(!(decide ((32:Int)≤(c.toNat:Int))&&decide ((c.toNat:Int)≤126)))=(decide (((c.toNat:Int):Int)<32)||decide (((c.toNat:Int):Int)>126)) by
     by_cases g1:(32:Int)≤(c.toNat:Int)<;>by_cases g2:(c.toNat:Int)≤126<;>simp[g1,g2]<;>omega]
    cases hr:(decide (((c.toNat:Int):Int)<32)||decide (((c.toNat:Int):Int)>126)) with
    | true=>exact .inl ⟨_,_,rfl,rfl,.inr ⟨.inl rfl,.inl rfl⟩⟩
    | false=>
     refine .inr ⟨(l2.map (fun b=>(b.toNat:Int))++[(c.toNat:Int)],((a+(i+1):Nat):Int)),(l2++[c],((i+1:Nat):Int)),?_,?_,?_,?_⟩
     ·simp only[cond_false,bi_some,orI_inl]
      rw[Ksy (by simp;omega),bi_some,w1]
     ·simp only[cond_false,bi_some]
      rw[show((i+1:Nat):Int)=((i+1:Nat):Int) from rfl,Kbd (show i+1≤(s.drop a).length by omega),bi_some,Kcp (by rw[List.length_take];omega),bi_some]
      have:((s.drop a).drop i).take 1=[c]:=by
       rw[List.drop_eq_getElem_cons he]
       have:=gGe he
       rw[hc] at this
       rw[←oSi this]
       rfl
      rw[this]
     ·refine⟨i+1,by omega,by omega,rfl,rfl,by simp,by simp;omega,?_⟩
      simp only
      rw[Kul h1 hc,h7,Kuk]
      have n92:c≠92:=by simpa using h92
      have n34:c≠34:=by simpa using h34
      simp[rpQ,n92,n34]
     ·simp only;omega
 ·rw[dF (show ¬ ((a+i:Nat):Int)<(s.length:Int) by omega),dF (show ¬ ((i:Nat):Int)<((s.drop a).length:Int) by omega)]
  exact .inl ⟨_,_,rfl,rfl,.inr ⟨.inr ⟨_,rfl⟩,.inr rfl⟩⟩
theorem Kun(s:Str)(a k:Nat)(hs:s.length≤50000)(ha:a<s.length)(hk:s.length+10<k) :
  (∃ (w:Str) (n:Nat),Kze k (tBad a) s=some ⟨kVal,(a:Int),((a+n:Nat):Int),[],⟨2,0,w,(0,0,0,0)⟩⟩∧Kzq k (s.drop a)=some (w,(n:Int))∧0<n∧n≤(s.drop a).length∧w.length≤50000∧((s.drop a).drop 1).take (n - 1)=rpQ w++[34])∨
   (Kze k (tBad a) s=some (tBad a)∧Kzq k (s.drop a)=some ([],0)):=by
 rw[Kuh,Kui]
 obtain⟨r,q,e1,e2,hq⟩:=Kte (f:=wordP (tBad a) s) (g:=wordR (s.drop a)) (WI a (s.drop a)) (fun s'=>s.length - s'.2.toNat) (WQ a (s.drop a)) (fun s' t' h=>Kum s a hs (by omega) s' t' h) k ([],wi ((tBad a).v_at+1)) ([],1) (by
  simp only;omega) ⟨1,Nat.le_refl _,by rw[List.length_drop];omega,by
  show wi ((a:Int)+1)=_
  rw[Kss (by omega) (by omega)];omega,rfl,rfl,by simp,by simp[rpQ]⟩
 rw[e1,e2,bi_some,bi_some]
 rcases hq with⟨w,n,rfl,rfl,h1,h2,h3,h4⟩ | ⟨h1,h2⟩
 ·exact .inl ⟨w,n,rfl,rfl,h1,h2,h3,h4⟩
 ·refine .inr ⟨?_,?_⟩
  ·rcases h1 with rfl | ⟨l,rfl⟩<;>rfl
  ·rcases h2 with rfl | rfl<;>rfl
end Go.Gk
namespace Go.Gk
theorem Kuo(k:Nat)(hk:100<k):∀ (l:List Str),l.length≤100000→Kzg k l=some (if l.all (fun x=>numB x 9) then(l.map numV,true) else([],false)):=by
 intro l hl
 unfold Kzg
 have key:∀ (l:List Str) (i:Nat) (acc:List Int),acc.length+l.length≤100000→rangeM (σ:=List Int) (ρ:=(List Int)×Bool) (fun i1 x3 s2=>bi (Kza k x3) fun y12=>bif !y12.2 then(bi (some ([],false)) fun v=>some (.out v)) else(bi (apd s2 [y12.1]) fun y18=>some (.go y18))) i l acc =
   some (if l.all (fun x=>numB x 9) then .go (acc++l.map numV) else .out ([],false)):=by
  intro l
  induction l with
  | nil=>intro i acc _;simp[rangeM]
  | cons x l ih=>
   intro i acc h
   simp only[List.length_cons] at h
   obtain⟨n,n1,n2⟩:=Kba k hk x
   simp only[rangeM]
   rw[n1,bi_some,List.all_cons]
   cases hN:numB x 9 with
   | false=>rfl
   | true=>
    rw[n2 hN]
    simp only[Bool.not_true,cond_false,Bool.true_and]
    rw[Ksy (by simp;omega),bi_some]
    simp only
    rw[ih (i+1) (acc++[numV x]) (by simp;omega)]
    simp
 rw[key l 0 [] (by simpa using hl),bi_some]
 cases l.all (fun x=>numB x 9)<;>simp[goI]
def verOf(L:List Int):Int×Int×Int×Int:=((L[0]?).getD 0,(L[1]?).getD 0,(L[2]?).getD 0,(L[3]?).getD 0)
theorem Kup(L:List Int)(v:Int)(j:Nat):updA (L.length:Int) j v ((L[j]?).getD 0)=(((L++[v])[j]?).getD 0):=by
 unfold updA
 by_cases h:(L.length:Int)=(j:Int)
 ·rw[if_pos h]
  obtain rfl:j=L.length:=by omega
  simp
 rw[if_neg h]
 by_cases h2:j<L.length
 ·rw[gAl h2]
 rw[List.getElem?_eq_none (by omega),List.getElem?_eq_none (by simp;omega)]
theorem Kuq(l:List Str)(hl:l.length≤4)(hs:∀ x∈l,x.length≤100000) :
  rangeM (σ:=Kxc) (ρ:=Kxc×Int) (fun i11 x13 s12=>bi (Kzo x13 9) fun y22=>bif !y22.2 then(bi (some ((⟨0,0,[],(0,0,0,0)⟩:Kxc),0)) fun v=>some (.out v)) else(bi (getZ ([s12.Version.1,s12.Version.2.1,s12.Version.2.2.1,s12.Version.2.2.2]:List Int) (i11:Int)) fun x28=>some (.go (⟨s12.Kind,s12.Number,s12.Words,(updA (i11:Int) 0 y22.1 s12.Version.1,updA (i11:Int) 1 y22.1 s12.Version.2.1,updA (i11:Int) 2 y22.1 s12.Version.2.2.1,updA (i11:Int) 3 y22.1 s12.Version.2.2.2)⟩:Kxc)))) 0 l (⟨4,0,[],(0,0,0,0)⟩:Kxc) =
   some (if l.all (fun x=>numB x 9) then .go ⟨4,0,[],verOf (l.map numV)⟩ else .out (⟨0,0,[],(0,0,0,0)⟩,0)):=by
 have key:∀ (l:List Str) (acc:List Int),acc.length+l.length≤4→(∀ x∈l,x.length≤100000)→rangeM (σ:=Kxc) (ρ:=Kxc×Int) (fun i11 x13 s12=>bi (Kzo x13 9) fun y22=>bif !y22.2 then(bi (some ((⟨0,0,[],(0,0,0,0)⟩:Kxc),0)) fun v=>some (.out v)) else(bi (getZ ([s12.Version.1,s12.Version.2.1,s12.Version.2.2.1,s12.Version.2.2.2]:List Int) (i11:Int)) fun x28=>some (.go (⟨s12.Kind,s12.Number,s12.Words,(updA (i11:Int) 0 y22.1 s12.Version.1,updA (i11:Int) 1 y22.1 s12.Version.2.1,updA (i11:Int) 2 y22.1 s12.Version.2.2.1,updA (i11:Int) 3 y22.1 s12.Version.2.2.2)⟩:Kxc)))) acc.length l (⟨4,0,[],verOf acc⟩:Kxc) =
   some (if l.all (fun x=>numB x 9) then .go ⟨4,0,[],verOf (acc++l.map numV)⟩ else .out (⟨0,0,[],(0,0,0,0)⟩,0)):=by
  intro l
  induction l with
  | nil=>intro acc _ _;simp[rangeM]
  | cons x l ih=>
   intro acc h hs
   simp only[List.length_cons] at h
   obtain⟨n,n1,n2⟩:=numR x 9 (by decide) (hs x mCs)
   simp only[rangeM]
   rw[show(9:Int)=((9:Nat):Int) from rfl,n1,bi_some,List.all_cons]
   cases hN:numB x 9 with
   | false=>rfl
   | true=>
    rw[n2 hN]
    simp only[Bool.not_true,cond_false,Bool.true_and]
    obtain⟨y,hy⟩:∃ y,([(verOf acc).1,(verOf acc).2.1,(verOf acc).2.2.1,(verOf acc).2.2.2]:List Int)[acc.length]?=some y:=⟨_,gGe (by simp;omega)⟩
    rw[Kth hy,bi_some]
    simp only[verOf]
    rw[Kup,Kup,Kup,Kup]
    have:=ih (acc++[numV x]) (by simp;omega) fun y hy=>hs y (mCo _ hy)
    simp only[List.length_append,List.length_cons,List.length_nil,Nat.zero_add,verOf] at this
    rw[show(((9:Nat):Int))=9 from rfl,this]
    simp
 exact(key l [] (by simpa using hl) hs).trans (by simp)
def verM(z:Str):Nat:=1+((z.drop 1).takeWhile dotB).length
theorem Kur{z:Str}(h:0<z.length):verM z≤z.length:=by
 have:=Kat (p:=dotB) (z.drop 1)
 rw[List.length_drop] at this
 unfold verM
 omega
def verP'(z:Str):List Str:=Lib.split ((z.drop 1).takeWhile dotB) [46]
def verOk(z:Str):Bool:=(verP' z).all (fun x=>numB x 9)&&decide ((verP' z).length≤4)
theorem Kus(c:UInt8):∀ (n:Nat) (s:Str),s.length≤n→(Lib.split s [c]).length≤s.length+1
 | n,s,h=>by
  rcases Kck c s with h1 | ⟨x,t,rfl,h1⟩
  ·rw[Kci h1];simp
  rw[Kcj t h1]
  simp only[List.length_append,List.length_cons] at h ⊢
  cases n with
  | zero=>omega
  | succ n=>
   have:=Kus c n t (by omega)
   omega
theorem Les(s:Str)(a k:Nat)(hs:s.length≤50000)(hk:s.length+200<k)(ha:a<s.length) :
  Kzh k (tBad a) s=some (if verOk (s.drop a) then⟨kVal,(a:Int),((a+verM (s.drop a):Nat):Int),[],⟨4,0,[],verOf ((verP' (s.drop a)).map numV)⟩⟩ else⟨kBad,(a:Int),((a+verM (s.drop a):Nat):Int),[],zA⟩):=by
 have hM:=Kur (z:=s.drop a) (by rw[List.length_drop];omega)
 rw[List.length_drop] at hM
 have hT:=Kat (p:=dotB) ((s.drop a).drop 1)
 rw[List.length_drop,List.length_drop] at hT
 unfold Kzh
 have e1:wi ((tBad a).v_at+1)=((a+1:Nat):Int):=by
  show wi ((a:Int)+1)=_
  rw[Kss (by omega) (by omega)];omega
 rw[e1,Kas (s:=s) (p:=dotB) (fun i c hc=>by
  have hlt:=(gEs.1 hc).1
  rw[dT (show(i:Int)<(s.length:Int) by omega),cond_true,Kth hc]
  simp only[bi_some,Kap]
  rw[Kss (by omega) (by omega),show((c.toNat:Int)==46)=(c==46) from Kaq c 46 (by decide)]
  unfold dotB
  cases isD c<;>cases (c==46)<;>rfl) (by
  rw[dF (show ¬ (s.length:Int)<(s.length:Int) by omega)];rfl) (s.length - (a+1)) k (a+1) rfl (by omega) (by omega),bi_some]
 have e2:a+1+((s.drop (a+1)).takeWhile dotB).length=a+verM (s.drop a):=by
  unfold verM;rw[List.drop_drop];omega
 rw[e2]
 have e3:subZ s ((a+1:Nat):Int) ((a+verM (s.drop a):Nat):Int)=some (((s.drop a).drop 1).takeWhile dotB):=by
  rw[show a+verM (s.drop a)=(a+1)+(((s.drop a).drop 1).takeWhile dotB).length by unfold verM;omega,Kbd (by unfold verM at hM;omega),←List.drop_drop,Kau]
 rw[e3,bi_some,Kco 46 (by omega),bi_some]
 have hlen:=Kus 46 _ (((s.drop a).drop 1).takeWhile dotB) (Nat.le_refl _)
 rw[Kuo k (by omega) _ (by omega),bi_some]
 rw[show Lib.split (((s.drop a).drop 1).takeWhile dotB) [46]=verP' (s.drop a) from rfl]
 unfold verOk
 generalize verP' (s.drop a)=L
 cases hall:L.all (fun x=>numB x 9) with
 | false=>rfl
 | true=>
  by_cases h4:L.length≤4
  ·rw[dT h4,dF (show ¬ ((L.length:Int):Int)>4 by omega)]
   rfl
  ·rw[dF h4,dT (show((L.length:Int):Int)>4 by omega)]
   rfl
theorem Let(z:Str)(hz:z.length≤50000)(h0:0<z.length):Kzs z=some (if verOk z then(⟨4,0,[],verOf ((verP' z).map numV)⟩,(verM z:Int)) else(zA,0)):=by
 have hM:=Kur h0
 have hT:=Kat (p:=dotB) (z.drop 1)
 rw[List.length_drop] at hT
 unfold Kzs
 rw[Kbg h0,bi_some,Kaw (z.drop 1) [48,49,50,51,52,53,54,55,56,57,46] dotB (by rw[List.length_drop];omega) (by decide) (fun c=>(cls c).2.1),bi_some]
 have e:wi (1+(((z.drop 1).takeWhile dotB).length:Int))=(verM z:Int):=by
  unfold verM;rw[Kss (by omega) (by omega)];omega
 rw[e]
 have e3:subZ z 1 (verM z:Int)=some ((z.drop 1).takeWhile dotB):=by
  have:=Kbd (s:=z) (a:=1) (m:=((z.drop 1).takeWhile dotB).length) (by unfold verM at hM;omega)
  rw[Kau] at this
  unfold verM
  exact this
 rw[e3,bi_some,Kco 46 (by omega),bi_some]
 have hmem:=(Kcm 46 _ ((z.drop 1).takeWhile dotB) (Nat.le_refl _)).1
 unfold verOk
 by_cases h4:(verP' z).length≤4
 ·rw[dT h4,dF (show ¬ (((Lib.split ((z.drop 1).takeWhile dotB) [46]).length:Int):Int)>4 by unfold verP' at h4;omega)]
  simp only[cond_false,Bool.and_true]
  rw[Kuq (Lib.split ((z.drop 1).takeWhile dotB) [46]) h4 (fun x hx=>by have:=(hmem x hx).1;omega),bi_some]
  show goI (if (verP' z).all (fun x=>numB x 9) then _ else _) _=_
  cases hall:(verP' z).all (fun x=>numB x 9) with
  | false=>rfl
  | true=>rfl
 rw[dF h4,dT (show(((Lib.split ((z.drop 1).takeWhile dotB) [46]).length:Int):Int)>4 by unfold verP' at h4;omega)]
 simp only[cond_true,Bool.and_false]
 rfl
def nmM(z:Str):Nat:=(z.takeWhile nmB).length
theorem Kut(c:UInt8):Kzi (c.toNat:Int)=some (nmB c):=by
 unfold Kzi nmB
 rw[show decide ((c.toNat:Int)≥97)=decide (97≤c.toNat) from decide_eq_decide.2 (by omega),show decide ((c.toNat:Int)≤122)=decide (c.toNat≤122) from decide_eq_decide.2 (by omega),Kap,show((c.toNat:Int)==45)=(c==45) from Kaq c 45 (by decide),show((c.toNat:Int)==95)=(c==95) from Kaq c 95 (by decide)]
 cases (decide (97≤c.toNat)&&decide (c.toNat≤122))<;>rfl
theorem Kuu(s:Str)(a k:Nat)(hs:s.length≤50000)(hk:s.length+200<k)(ha:a<s.length) :
  Kzj k (tBad a) s=some (if (s.drop a).take (nmM (s.drop a))=[116,114,117,101] then⟨kVal,(a:Int),((a+nmM (s.drop a):Nat):Int),(s.drop a).take (nmM (s.drop a)),⟨3,1,[],(0,0,0,0)⟩⟩ else
   if (s.drop a).take (nmM (s.drop a))=[102,97,108,115,101] then⟨kVal,(a:Int),((a+nmM (s.drop a):Nat):Int),(s.drop a).take (nmM (s.drop a)),⟨3,0,[],(0,0,0,0)⟩⟩ else⟨kName,(a:Int),((a+nmM (s.drop a):Nat):Int),(s.drop a).take (nmM (s.drop a)),zA⟩):=by
 have hT:=Kat (p:=nmB) (s.drop a)
 rw[List.length_drop] at hT
 unfold Kzj
 show bi (loopM _ k (a:Int)) _=_
 rw[Kas (s:=s) (p:=nmB) (fun i c hc=>by
  have hlt:=(gEs.1 hc).1
  rw[dT (show(i:Int)<(s.length:Int) by omega),cond_true,Kth hc]
  simp only[bi_some,Kut]
  rw[Kss (by omega) (by omega)]
  cases nmB c<;>rfl) (by
  rw[dF (show ¬ (s.length:Int)<(s.length:Int) by omega)];rfl) (s.length - a) k a rfl (by omega) (by omega),bi_some]
 show bi (subZ s (a:Int) ((a+nmM (s.drop a):Nat):Int)) _=_
 rw[Kbd (by unfold nmM;omega),bi_some]
 generalize (s.drop a).take (nmM (s.drop a))=w
 by_cases h1:w=[116,114,117,101]
 ·subst h1;rfl
 ·rw[if_neg h1,show((w:Str)==[116,114,117,101])=false by simpa using h1]
  by_cases h2:w=[102,97,108,115,101]
  ·subst h2;rfl
  ·rw[if_neg h2,show((w:Str)==[102,97,108,115,101])=false by simpa using h2]
   rfl
def refWord(z:Str)(at':Int):Option (Kxf×Int):=bi (Kzp z [97,98,99,100,101,102,103,104,105,106,107,108,109,110,111,112,113,114,115,116,117,118,119,120,121,122,45,95,48,49,50,51,52,53,54,55,56,57]) fun y85=>bi (subZ z 0 y85) fun z87=>bi (Kyx [[102,97,108,115,101],[116,114,117,101]] z87) fun y89=>bif decide ((y89:Int)≥0) then(some ((⟨[102],at',z87,(⟨3,y89,[],(0,0,0,0)⟩:Kxc)⟩:Kxf),y85)) else(some ((⟨[110],at',z87,(⟨0,0,[],(0,0,0,0)⟩:Kxc)⟩:Kxf),y85))
theorem Kuv(z:Str)(at':Int)(hz:z.length≤50000):refWord z at'=some (if z.take (nmM z)=[116,114,117,101] then(⟨[102],at',z.take (nmM z),⟨3,1,[],(0,0,0,0)⟩⟩,(nmM z:Int)) else
   if z.take (nmM z)=[102,97,108,115,101] then(⟨[102],at',z.take (nmM z),⟨3,0,[],(0,0,0,0)⟩⟩,(nmM z:Int)) else(⟨[110],at',z.take (nmM z),zA⟩,(nmM z:Int))):=by
 have hT:nmM z≤z.length:=Kat (p:=nmB) z
 unfold refWord
 rw[Kaw z _ nmB hz (by decide) (fun c=>(cls c).2.2),bi_some,show(List.takeWhile nmB z).length=nmM z from rfl,Kbf hT,bi_some]
 generalize z.take (nmM z)=w
 by_cases h1:w=[116,114,117,101]
 ·subst h1;rfl
 ·rw[if_neg h1]
  by_cases h2:w=[102,97,108,115,101]
  ·subst h2;rfl
  ·rw[if_neg h2]
   have:Kyx [[102,97,108,115,101],[116,114,117,101]] w=some (-1):=by
    unfold Kyx
    simp only[rangeM]
    rw[show((w:Str)==[102,97,108,115,101])=false by simpa using h2,show((w:Str)==[116,114,117,101])=false by simpa using h1]
    rfl
   rw[this]
   rfl
end Go.Gk
namespace Go.Gk
def SG:List Str:=[[61,61],[33,61],[60,61],[62,61],[38,38],[124,124],[60],[62],[33],[40],[41]]
def scanRest(k:Nat)(z5:Str)(at':Int)(q14:Str×Int):Option (Kxf×Int):=bif ((decide ((q14.2:Int)>0))||((z5:Str)==[])) then(some ((⟨q14.1,at',[],(⟨0,0,[],(0,0,0,0)⟩:Kxc)⟩:Kxf),q14.2)) else(bi (getZ z5 0) fun c28=>bif ((c28.toNat:Int):Int)==34 then(bi (Kzq k z5) fun y31=>bif decide ((y31.2:Int)>0) then(some ((⟨[118],at',[],(⟨2,0,y31.1,(0,0,0,0)⟩:Kxc)⟩:Kxf),y31.2)) else(some ((⟨q14.1,at',[],(⟨2,0,y31.1,(0,0,0,0)⟩:Kxc)⟩:Kxf),y31.2))) else(bi (Kzr z5 0) fun y36=>bi (bif y36 then(some true) else(bi (getZ z5 0) fun c42=>bi (bif ((c42.toNat:Int):Int)==45 then(bi (Kzr z5 1) fun y47=>some y47) else(some false)) fun q44=>some q44)) fun q38=>bif q38 then(bi (subZ z5 1 (z5.length:Int)) fun z51=>bi (Kzp z51 [48,49,50,51,52,53,54,55,56,57]) fun y53=>bi (subZ z5 0 (wi (1+y53))) fun z55=>bi (Kzo z55 9) fun y57=>bif y57.2 then(some ((⟨[118],at',[],(⟨1,y57.1,[],(0,0,0,0)⟩:Kxc)⟩:Kxf),wi (1+y53))) else(some ((⟨q14.1,at',[],(⟨0,0,[],(0,0,0,0)⟩:Kxc)⟩:Kxf),wi (1+y53)))) else(bi (getZ z5 0) fun c62=>bi (bif ((c62.toNat:Int):Int)==118 then(bi (Kzr z5 1) fun y67=>some y67) else(some false)) fun q64=>bif q64 then(bi (Kzs z5) fun y71=>bif decide ((y71.2:Int)>0) then(some ((⟨[118],at',[],y71.1⟩:Kxf),y71.2)) else(some ((⟨q14.1,at',[],y71.1⟩:Kxf),y71.2))) else(bi (getZ z5 0) fun c76=>bi (bif decide (((c76.toNat:Int):Int)≥97) then(bi (getZ z5 0) fun c81=>some (decide (((c81.toNat:Int):Int)≤122))) else(some false)) fun q78=>bif q78 then(bi (Kzp z5 [97,98,99,100,101,102,103,104,105,106,107,108,109,110,111,112,113,114,115,116,117,118,119,120,121,122,45,95,48,49,50,51,52,53,54,55,56,57]) fun y85=>bi (subZ z5 0 y85) fun z87=>bi (Kyx [[102,97,108,115,101],[116,114,117,101]] z87) fun y89=>bif decide ((y89:Int)≥0) then(some ((⟨[102],at',z87,(⟨3,y89,[],(0,0,0,0)⟩:Kxc)⟩:Kxf),y85)) else(some ((⟨[110],at',z87,(⟨0,0,[],(0,0,0,0)⟩:Kxc)⟩:Kxf),y85))) else(some ((⟨q14.1,at',[],(⟨0,0,[],(0,0,0,0)⟩:Kxc)⟩:Kxf),q14.2))))))
def tokRest(k:Nat)(s:Str)(aa:Int)(c22:UInt8):Option Kxe:=bi (bi (Kzb (c22.toNat:Int)) fun y26=>bi (bif y26 then(some true) else(bi (bif ((((c22.toNat:Int):Int)==45)&&(decide ((wi (aa+1):Int)<(s.length:Int)))) then(bi (getZ s (wi (aa+1))) fun c35=>bi (Kzb (c35.toNat:Int)) fun y37=>some y37) else(some false)) fun q32=>some q32)) fun q28=>bif q28 then(bi (Kzd k (⟨[98,97,100],aa,0,[],(⟨0,0,[],(0,0,0,0)⟩:Kxc)⟩:Kxe) s) fun y41=>some y41) else(bif ((c22.toNat:Int):Int)==34 then(bi (Kze k (⟨[98,97,100],aa,0,[],(⟨0,0,[],(0,0,0,0)⟩:Kxc)⟩:Kxe) s) fun y45=>some y45) else(bi (subZ s aa (s.length:Int)) fun z48=>bi (Kzf z48) fun y50=>bif y50 then(bi (Kzh k (⟨[98,97,100],aa,0,[],(⟨0,0,[],(0,0,0,0)⟩:Kxc)⟩:Kxe) s) fun y53=>some y53) else(bif ((decide (((c22.toNat:Int):Int)≥97))&&(decide (((c22.toNat:Int):Int)≤122))) then(bi (Kzj k (⟨[98,97,100],aa,0,[],(⟨0,0,[],(0,0,0,0)⟩:Kxc)⟩:Kxe) s) fun y57=>some y57) else(some (⟨[98,97,100],aa,0,[],(⟨0,0,[],(0,0,0,0)⟩:Kxc)⟩:Kxe)))))) fun q24=>some q24
theorem Kwg(k:Nat)(v_r:Kxg):Kzt k v_r=bi (subZ v_r.s v_r.v_at (v_r.s.length:Int)) fun z1=>bi (Kzp z1 [32,10]) fun y3=>bi (subZ v_r.s (wi (v_r.v_at+y3)) (v_r.s.length:Int)) fun z5=>bi (rangeM (σ:=Unit) (ρ:=Str×Int) (fun i7 x9 s8=>bi (Kpd z5 x9) fun y20=>bif y20 then(some (.out (x9,(x9.length:Int)))) else(some (.go ()))) 0 SG ()) fun q=>bi (lsN q fun s8=>([],0)) fun q14=>bi (scanRest k z5 (wi (v_r.v_at+y3)) q14) fun q24=>some (⟨v_r.s,wi ((wi (v_r.v_at+y3))+q24.2),q24.1,v_r.fault⟩:Kxg):=rfl
theorem Kwh(k:Nat)(s:Str)(v_at:Int):Kzk k s v_at=bif (v_at:Int)==(s.length:Int) then(some (⟨kEnd,v_at,0,[],zA⟩:Kxe)) else(bi (rangeM (σ:=Unit) (ρ:=Kxe) (fun i3 x5 s4=>bi (subZ s v_at (s.length:Int)) fun z14=>bi (Kpd z14 x5) fun y16=>bif y16 then(bi (some (⟨x5,v_at,wi (v_at+(x5.length:Int)),[],(⟨0,0,[],(0,0,0,0)⟩:Kxc)⟩:Kxe)) fun v=>some (.out v)) else(some (.go ()))) 0 SG ()) fun q=>goI q fun a8=>bi (getZ s v_at) fun c22=>tokRest k s v_at c22):=rfl
theorem Kwi{α ρ:Type}{f:Nat→α→Unit→Option (LS Unit ρ)}(p:α→Bool)(v:α→ρ)(hf:∀ i x,f i x ()=some (if p x then .out (v x) else .go ())):∀ (l:List α) (i:Nat),rangeM f i l ()=some (match l.find? p with | some x=>.out (v x) | none=>.go ())
 | [],i=>rfl
 | x :: l,i=>by
  have h0:=hf i x
  rw[List.find?_cons]
  cases hp:p x with
  | true=>rw[hp] at h0;simp only[rangeM,h0,if_true]
  | false=>rw[hp] at h0;simp only[rangeM,h0];exact Kwi p v hf l (i+1)
inductive ValT (z:Str) (m:Nat):Kxc→Prop
 | num (h:numB (z.take m) 9=true):ValT z m ⟨1,numV (z.take m),[],(0,0,0,0)⟩
 | words (w:Str) (hl:w.length≤50000) (h:z.take m=34 :: (rpQ w++[34])):ValT z m ⟨2,0,w,(0,0,0,0)⟩
 | tt (h:z.take m=[116,114,117,101]):ValT z m ⟨3,1,[],(0,0,0,0)⟩
 | ff (h:z.take m=[102,97,108,115,101]):ValT z m ⟨3,0,[],(0,0,0,0)⟩
 | ver (h:verOk z=true) (hm:m=verM z):ValT z m ⟨4,0,[],verOf ((verP' z).map numV)⟩
def TokR(s:Str)(a:Nat)(p:Kxe)(r:Kxf)(n:Int):Prop:=
 p.v_at=(a:Int)∧r.v_at=(a:Int)∧
  ((p.kind=kEnd∧r.kind=[]∧a=s.length)∨(p.kind=kBad∧r.kind=[]∧a<s.length)∨
   ∃ m:Nat,0<m∧a+m≤s.length∧n=(m:Int)∧p.v_end=((a+m:Nat):Int)∧
    ((p.kind∈SG∧r.kind=p.kind)∨(p.kind=kName∧r.kind=[110]∧r.name=p.name∧p.name.length≤50000)∨(p.kind=kVal∧(r.kind=[118]∨r.kind=[102])∧r.value=p.value∧ValT (s.drop a) m p.value)))
def d1(z':Str):Bool:=match z' with
 | d :: _=>isD d
 | []=>false
theorem Kwj(c:UInt8)(z':Str):verB (c :: z')=((c==118)&&d1 z'):=by
 cases z' with
 | nil=>unfold verB d1;simp
 | cons d r=>rfl
theorem Leu(c:UInt8)(z':Str):Kzr (c :: z') 0=some (isD c):=Kbc (c :: z') 0
theorem Lev(c:UInt8)(z':Str):Kzr (c :: z') 1=some (d1 z'):=by
 refine(Kbc (c :: z') 1).trans ?_
 cases z'<;>rfl
theorem Lew(s:Str)(a:Nat)(hs:s.length≤50000)(c:UInt8)(z':Str)(hz:s.drop a=c :: z') :
  (bif ((c==45)&&(decide ((wi ((a:Int)+1):Int)<(s.length:Int)))) then(bi (getZ s (wi ((a:Int)+1))) fun c35=>bi (Kzb (c35.toNat:Int)) fun y37=>some y37) else(some false))=some ((c==45)&&d1 z'):=by
 have hzl:(s.drop a).length=s.length - a:=List.length_drop
 have ha:a<s.length:=by rw[hz] at hzl;simp at hzl;omega
 rw[show wi ((a:Int)+1)=((a+1:Nat):Int) by rw[Kss (by omega) (by omega)];omega]
 have h1:=Kay (s:=s) (a:=a) (i:=1)
 rw[hz] at h1 hzl
 cases z' with
 | nil=>
  simp at hzl
  rw[dF (show ¬ ((a+1:Nat):Int)<(s.length:Int) by omega)]
  simp[d1]
 | cons d r=>
  simp at hzl
  rw[dT (show((a+1:Nat):Int)<(s.length:Int) by omega),Bool.and_true]
  have:s[a+1]?=some d:=by rw[←h1];rfl
  rw[Kth this,bi_some,Kap,bi_some]
  cases c==45<;>rfl
theorem Kwk(s:Str)(a k:Nat)(hs:s.length≤50000)(hk:s.length+300<k)(c:UInt8)(z':Str)(hz:s.drop a=c :: z') :
  ∃ p r n,tokRest k s (a:Int) c=some p∧scanRest k (s.drop a) (a:Int) ([],0)=some (r,n)∧0≤n∧n≤(s.drop a).length∧TokR s a p r n:=by
 have hzl:(s.drop a).length=s.length - a:=List.length_drop
 have ha:a<s.length:=by rw[hz] at hzl;simp at hzl;omega
 have hc:s[a]?=some c:=by
  have:=Kay (s:=s) (a:=a) (i:=0)
  rw[hz] at this
  simpa using this.symm
 have hz0:0<(s.drop a).length:=by omega
 have hg0:getZ (s.drop a) 0=some c:=by rw[hz];rfl
 have hd0:Kzr (s.drop a) 0=some (isD c):=by rw[hz];exact Leu c z'
 have hd1:Kzr (s.drop a) 1=some (d1 z'):=by rw[hz];exact Lev c z'
 have hne:((s.drop a:Str)==[])=false:=by rw[hz];rfl
 have hv:Kzf (s.drop a)=some ((c==118)&&d1 z'):=by rw[Kar,hz,Kwj]
 have hn1:=Lew s a hs c z' hz
 have e45:((c.toNat:Int)==45)=(c==45):=Kaq c 45 (by decide)
 have e34:((c.toNat:Int)==34)=(c==34):=Kaq c 34 (by decide)
 have e118:((c.toNat:Int)==118)=(c==118):=Kaq c 118 (by decide)
 unfold tokRest scanRest
 rw[Kap,bi_some,e45,e34,hn1,hd0,hd1,hne,hg0,Kbe (by omega)]
 simp only[show decide (((([],0):Str×Int).2:Int)>0)=false from rfl,Bool.or_self,cond_false,bi_some]
 rw[hv,e34,e45]
 simp only[bi_some]
 cases h34:(c==34) with
 | true=>
  obtain rfl:c=34:=eq_of_beq h34
  rw[show isD 34=false from by decide,show((34:UInt8)==45)=false from by decide]
  simp only[Bool.false_and,cond_false,bi_some,cond_true]
  rcases Kun s a k hs ha (by omega) with⟨w,n,h1,h2,h3,h4,h5,h6⟩ | ⟨h1,h2⟩
  ·rw[show(⟨[98,97,100],(a:Int),0,[],(⟨0,0,[],(0,0,0,0)⟩:Kxc)⟩:Kxe)=tBad a from rfl,h1,h2]
   simp only[bi_some]
   rw[dT (show((n:Int))>0 by omega),cond_true]
   exact⟨_,_,_,rfl,rfl,by omega,by omega,rfl,rfl,.inr (.inr ⟨n,h3,by omega,rfl,rfl,.inr (.inr ⟨rfl,.inl rfl,rfl,.words w h5 (by rw[hz] at h6 ⊢;obtain⟨j,rfl⟩:∃ j,n=j+1:=⟨n - 1,by omega⟩;rw[List.take_succ_cons];exact congrArg _ h6)⟩)⟩)⟩
  ·rw[show(⟨[98,97,100],(a:Int),0,[],(⟨0,0,[],(0,0,0,0)⟩:Kxc)⟩:Kxe)=tBad a from rfl,h1,h2]
   exact⟨_,_,_,rfl,rfl,by omega,by omega,rfl,rfl,.inr (.inl ⟨rfl,rfl,ha⟩)⟩
 | false=>
  simp only[cond_false]
  cases hnum:(isD c||((c==45)&&d1 z')) with
  | true=>
   have hcc:(c==45)=true∨isD c=true:=by
    cases hD:isD c with
    | true=>exact .inr rfl
    | false=>rw[hD] at hnum;simp only[Bool.false_or,Bool.and_eq_true] at hnum;exact .inl hnum.1
   have hP:=Lej s a k hs (by omega) c hc hcc
   have hR:=Lek (s.drop a) (a:Int) [] (by omega) hz0
   have hM:=Kbh hz0
   unfold refNum at hR
   have q1:(bif isD c then(some true) else(some ((c==45)&&d1 z')):Option Bool)=some true:=by
    cases hD:isD c with
    | true=>rfl
    | false=>rw[hD] at hnum;rw[Bool.false_or] at hnum;rw[hnum];rfl
   have q2:(bif isD c then(some true) else(bi (bif (c==45) then(some (d1 z')) else(some false)) fun q44=>some q44):Option Bool)=some true:=by
    cases hD:isD c with
    | true=>rfl
    | false=>
     rw[hD] at hnum
     simp only[Bool.false_or,Bool.and_eq_true] at hnum
     rw[hnum.1,hnum.2];rfl
   rw[q1,q2]
   simp only[bi_some,cond_true]
   rw[show(⟨[98,97,100],(a:Int),0,[],(⟨0,0,[],(0,0,0,0)⟩:Kxc)⟩:Kxe)=⟨kBad,(a:Int),0,[],zA⟩ from rfl,hP,hR]
   cases hN:numB ((s.drop a).take (numM (s.drop a))) 9 with
   | true=>exact⟨_,_,_,rfl,rfl,by omega,by omega,rfl,rfl,.inr (.inr ⟨numM (s.drop a),by unfold numM;omega,by omega,rfl,rfl,.inr (.inr ⟨rfl,.inl rfl,rfl,.num hN⟩)⟩)⟩
   | false=>exact⟨_,_,_,rfl,rfl,by omega,by omega,rfl,rfl,.inr (.inl ⟨rfl,rfl,ha⟩)⟩
  | false=>
   rw[Bool.or_eq_false_iff] at hnum
   have q2:(bif (c==45) then(some (d1 z')) else(some false):Option Bool)=some false:=by
    have:=hnum.2
    cases h:(c==45) with
    | true=>rw[h,Bool.true_and] at this;rw[this];rfl
    | false=>rfl
   rw[hnum.1,hnum.2,q2]
   simp only[cond_false,bi_some]
   rw[e118]
   cases hver:((c==118)&&d1 z') with
   | true=>
    have q3:(bif (c==118) then(some (d1 z')) else(some false):Option Bool)=some true:=by
     rw[Bool.and_eq_true] at hver
     rw[hver.1,hver.2];rfl
    rw[q3]
    simp only[cond_true,bi_some]
    rw[show(⟨[98,97,100],(a:Int),0,[],(⟨0,0,[],(0,0,0,0)⟩:Kxc)⟩:Kxe)=tBad a from rfl,Les s a k hs (by omega) ha,Let (s.drop a) (by omega) hz0]
    have hM:=Kur hz0
    cases hO:verOk (s.drop a) with
    | true=>
     simp only[if_true,bi_some]
     rw[dT (show((verM (s.drop a):Int))>0 by unfold verM;omega),cond_true]
     exact⟨_,_,_,rfl,rfl,by omega,by omega,rfl,rfl,.inr (.inr ⟨verM (s.drop a),by unfold verM;omega,by omega,rfl,rfl,.inr (.inr ⟨rfl,.inl rfl,rfl,.ver hO rfl⟩)⟩)⟩
    | false=>exact⟨_,_,0,rfl,rfl,by omega,by omega,rfl,rfl,.inr (.inl ⟨rfl,rfl,ha⟩)⟩
   | false=>
    have q3:(bif (c==118) then(some (d1 z')) else(some false):Option Bool)=some false:=by
     cases h:(c==118) with
     | true=>rw[h,Bool.true_and] at hver;rw[hver];rfl
     | false=>rfl
    rw[q3]
    simp only[cond_false,bi_some]
    have q4:(bif decide (((c.toNat:Int):Int)≥97) then(some (decide (((c.toNat:Int):Int)≤122))) else(some false):Option Bool)=some ((decide (((c.toNat:Int):Int)≥97))&&(decide (((c.toNat:Int):Int)≤122))):=by
     cases decide (((c.toNat:Int):Int)≥97)<;>rfl
    rw[q4]
    simp only[bi_some]
    cases hlet:((decide (((c.toNat:Int):Int)≥97))&&(decide (((c.toNat:Int):Int)≤122))) with
    | false=>exact⟨_,_,_,rfl,rfl,by omega,by omega,rfl,rfl,.inr (.inl ⟨rfl,rfl,ha⟩)⟩
    | true=>
     have hR:=Kuv (s.drop a) (a:Int) (by omega)
     unfold refWord at hR
     simp only[cond_true]
     rw[show(⟨[98,97,100],(a:Int),0,[],(⟨0,0,[],(0,0,0,0)⟩:Kxc)⟩:Kxe)=tBad a from rfl,Kuu s a k hs (by omega) ha,hR]
     have hM:nmM (s.drop a)≤(s.drop a).length:=Kat _
     have hM0:0<nmM (s.drop a):=by
      unfold nmM
      rw[hz,List.takeWhile_cons]
      have:nmB c=true:=by
       unfold nmB
       simp only[Bool.and_eq_true,decide_eq_true_eq] at hlet
       rw[dT (show 97≤c.toNat by omega),dT (show c.toNat≤122 by omega)]
       rfl
      rw[this]
      simp
     have hlen:((s.drop a).take (nmM (s.drop a))).length≤50000:=by rw[List.length_take];omega
     by_cases h1:(s.drop a).take (nmM (s.drop a))=[116,114,117,101]
     ·rw[if_pos h1,if_pos h1]
      exact⟨_,_,_,rfl,rfl,by omega,by omega,rfl,rfl,.inr (.inr ⟨nmM (s.drop a),hM0,by omega,rfl,rfl,.inr (.inr ⟨rfl,.inr rfl,rfl,.tt h1⟩)⟩)⟩
     ·rw[if_neg h1,if_neg h1]
      by_cases h2:(s.drop a).take (nmM (s.drop a))=[102,97,108,115,101]
      ·rw[if_pos h2,if_pos h2]
       exact⟨_,_,_,rfl,rfl,by omega,by omega,rfl,rfl,.inr (.inr ⟨nmM (s.drop a),hM0,by omega,rfl,rfl,.inr (.inr ⟨rfl,.inr rfl,rfl,.ff h2⟩)⟩)⟩
      ·rw[if_neg h2,if_neg h2]
       exact⟨_,_,_,rfl,rfl,by omega,by omega,rfl,rfl,.inr (.inr ⟨nmM (s.drop a),hM0,by omega,rfl,rfl,.inr (.inl ⟨rfl,rfl,rfl,hlen⟩)⟩)⟩
theorem Kwl:∀ g∈SG,1≤g.length∧g.length≤2:=by decide
theorem Kwm{z g:Str}(h:Lib.hasPrefix z g=true):g.length≤z.length:=by
 unfold Lib.hasPrefix at h
 simp at h
 first | exact h.length_le | exact(List.isPrefixOf_iff_prefix.1 h).length_le | omega
theorem Kwn(s:Str)(a k:Nat)(hs:s.length≤50000)(hk:s.length+300<k)(ha:a≤s.length) :
  ∃ p r n q14,Kzk k s (a:Int)=some p∧bi (rangeM (σ:=Unit) (ρ:=Str×Int) (fun i7 x9 s8=>bi (Kpd (s.drop a) x9) fun y20=>bif y20 then(some (.out (x9,(x9.length:Int)))) else(some (.go ()))) 0 SG ()) (fun q=>lsN q fun s8=>(([],0):Str×Int))=some q14∧
   scanRest k (s.drop a) (a:Int) q14=some (r,n)∧0≤n∧n≤(s.drop a).length∧TokR s a p r n:=by
 have hzl:(s.drop a).length=s.length - a:=List.length_drop
 rw[Kwh,Kwi (fun x=>Lib.hasPrefix (s.drop a) x) (fun x=>(x,(x.length:Int))) (fun i x=>by
  show(bi (some (Lib.hasPrefix (s.drop a) x)) fun y20=>bif y20 then(some (LS.out (σ:=Unit) (x,(x.length:Int)))) else(some (.go ())))=_
  rw[bi_some]
  cases Lib.hasPrefix (s.drop a) x<;>rfl) SG 0,bi_some]
 by_cases he:a=s.length
 ·subst he
  rw[show(((s.length:Nat):Int)==(s.length:Int))=true by simp,cond_true,List.drop_length]
  refine⟨_,⟨[],(s.length:Int),[],zA⟩,0,([],0),rfl,rfl,rfl,by omega,by simp,rfl,rfl,.inl ⟨rfl,rfl,rfl⟩⟩
 ·have hne:(((a:Nat):Int)==(s.length:Int))=false:=beq_eq_false_iff_ne.2 (by omega)
  rw[hne,cond_false]
  rw[Kwi (fun x=>Lib.hasPrefix (s.drop a) x) (fun x=>(⟨x,(a:Int),wi ((a:Int)+(x.length:Int)),[],zA⟩:Kxe)) (fun i x=>by
   rw[Kbe ha,bi_some]
   show(bi (some (Lib.hasPrefix (s.drop a) x)) fun y16=>bif y16 then _ else _)=_
   rw[bi_some]
   cases Lib.hasPrefix (s.drop a) x<;>rfl) SG 0,bi_some]
  cases hf:SG.find? (fun x=>Lib.hasPrefix (s.drop a) x) with
  | some g=>
   have hp:Lib.hasPrefix (s.drop a) g=true:=List.find?_some hf
   have hm:g∈SG:=List.mem_of_find?_eq_some hf
   have hl:=Kwl g hm
   have hpl:=Kwm hp
   refine⟨_,⟨g,(a:Int),[],zA⟩,(g.length:Int),_,rfl,rfl,?_,by omega,by omega,rfl,rfl,.inr (.inr ⟨g.length,by omega,by omega,rfl,?_,.inl ⟨hm,rfl⟩⟩)⟩
   ·unfold scanRest
    simp only
    rw[dT (show((g.length:Int))>0 by omega)]
    rfl
   ·simp only
    rw[Kss (by omega) (by omega)]
    omega
  | none=>
   cases hz:s.drop a with
   | nil=>rw[hz] at hzl;simp at hzl;omega
   | cons c z'=>
    have hc:s[a]?=some c:=by
     have:=Kay (s:=s) (a:=a) (i:=0)
     rw[hz] at this
     simpa using this.symm
    obtain⟨p,r,n,h1,h2,h3,h4,h5⟩:=Kwk s a k hs hk c z' hz
    rw[hz] at h2 h4
    refine⟨p,r,n,([],0),?_,rfl,h2,h3,h4,h5⟩
    simp only[goI]
    rw[Kth hc,bi_some]
    exact h1
end Go.Gk
namespace Go.Gk
theorem repK(c:UInt8)(new:Str):∀ (n:Nat) (s:Str),s.length≤n→Lib.replaceK [c] new (Lib.count s [c]) s=s.flatMap fun b=>if b=c then new else[b]
 | n,s,h=>by
  have hid:∀ x:Str,(∀ b∈x,b≠c)→(x.flatMap fun b=>if b=c then new else[b])=x:=fun x hx=>by
   induction x with
   | nil=>rfl
   | cons b x ih=>
    rw[List.flatMap_cons,if_neg (hx b mCs),ih (fun d hd=>hx d (mCo _ hd))]
    rfl
  rcases Kck c s with h1 | ⟨x,t,rfl,h1⟩
  ·have e:Lib.count s [c]=0:=Lib.count_miss (by rw[Lib.index_one];exact Kcg h1)
   rw[e,hid s h1]
   rfl
  have hi:Lib.index (x++c :: t) [c]=(x.length:Int):=by rw[Lib.index_one];exact Kch t h1
  have hd:(x++c :: t).drop (x.length+1)=t:=by
   rw[show x++c :: t=(x++[c])++t by simp,List.drop_left' (by simp)]
  have hc:Lib.count (x++c :: t) [c]=Lib.count t [c]+1:=by
   rw[Lib.count_hit (by simp) hi,show([c]:List UInt8).length=1 from rfl,hd];omega
  rw[hc,Lib.replaceK_hit _ _ _ _ _ hi,show([c]:List UInt8).length=1 from rfl,hd,List.flatMap_append,List.flatMap_cons,if_pos rfl,hid x h1,List.take_left' rfl]
  cases n with
  | zero=>simp at h
  | succ n=>
   rw[repK c new n t (by simp at h;omega),List.append_assoc]
theorem Kvv(c:UInt8)(new s:Str)(hn:new.length=2)(hs:s.length≤1000000):Kpw s [c] new=some (s.flatMap fun b=>if b=c then new else[b]):=by
 unfold Kpw
 rw[hn,Nat.ble_eq_true_of_le (show s.length+s.length * 2≤140737488355328 by omega),show Nat.blt s.length 4294967281=true from Nat.ble_eq_true_of_le (by omega)]
 show some _=_
 congr 1
 unfold Lib.replaceAll Lib.replace Lib.replaceNum
 rw[if_neg (by
  intro e
  have:=congrArg List.length (eq_of_beq e)
  simp[hn] at this),if_pos (.inl (by decide))]
 exact repK c new _ s (Nat.le_refl _)
theorem Kvw(s:Str):((s.flatMap fun b=>if b=92 then[92,92] else[b]).flatMap fun b=>if b=34 then[92,34] else[b])=rpQ s:=by
 induction s with
 | nil=>rfl
 | cons c s ih=>
  unfold rpQ at ih ⊢
  rw[List.flatMap_cons,List.flatMap_append,ih,List.flatMap_cons]
  by_cases h:c=92
  ·subst h;rfl
  rw[if_neg h,if_neg h]
  by_cases h2:c=34
  ·subst h2;rfl
  rw[if_neg h2]
  simp[h2]
theorem Kvx(s:Str):s.length≤(rpQ s).length∧(rpQ s).length≤2 * s.length:=by
 induction s with
 | nil=>exact⟨Nat.le_refl _,Nat.le_refl _⟩
 | cons c s ih=>
  unfold rpQ at ih ⊢
  rw[List.flatMap_cons,List.length_append,List.length_cons]
  have:(if c=92 then[92,92] else if c=34 then[92,34] else[c]:List UInt8).length=1∨(if c=92 then[92,92] else if c=34 then[92,34] else[c]:List UInt8).length=2:=by
   split
   ·exact .inr rfl
   split
   ·exact .inr rfl
   exact .inl rfl
  omega
theorem Kvy(c:UInt8)(new:Str)(hn:new.length=2)(s:Str):(s.flatMap fun b=>if b=c then new else[b]).length≤2 * s.length:=by
 induction s with
 | nil=>simp
 | cons d s ih=>
  rw[List.flatMap_cons,List.length_append,List.length_cons]
  by_cases h:d=c
  ·rw[if_pos h,hn];omega
  rw[if_neg h,List.length_singleton];omega
theorem Kvz(k:Nat)(n:Int)(w:Str)(v:Int×Int×Int×Int)(hw:w.length≤100000) :
  Kyg k ⟨2,n,w,v⟩=some (34 :: (rpQ w++[34]))∧Kys k ⟨2,n,w,v⟩=some (34 :: (rpQ w++[34])):=by
 have hl:=Kvx w
 have h2:=Kvy 92 [92,92] rfl w
 constructor
 ·unfold Kyg
  show gd (Nat.ble w.length 1099511627776) _=_
  rw[Nat.ble_eq_true_of_le (show w.length≤1099511627776 by omega)]
  rfl
 ·unfold Kys
  rw[show((2:Int)==1)=false from rfl,show((2:Int)==3)=false from rfl,show((2:Int)==4)=false from rfl]
  simp only[cond_false]
  rw[Kvv 92 [92,92] w rfl (by omega),bi_some,Kvv 34 [92,34] _ rfl (by omega),bi_some,Kvw,Kcp (by simp;omega),bi_some,Kcp (by simp;omega)]
  simp
def verT(a b c d:Int):Str:=Lib.join [Lib.itoa a,Lib.itoa b,Lib.itoa c,Lib.itoa d] [46]
theorem Kwa:∀ (k n:Nat),n<10 ^ (k+1)→(Lib.decDigits n).length≤k+1
 | 0,n,h=>by
  rw[Lib.decDigits,dif_pos (by simpa using h)]
  simp
 | k+1,n,h=>by
  rw[Lib.decDigits]
  split
  ·simp
  have h2:n / 10<10 ^ (k+1):=Nat.div_lt_of_lt_mul (by rw[Nat.mul_comm,←Nat.pow_succ];exact h)
  have:=Kwa k (n / 10) h2
  simp
  omega
theorem Kwb(n:Nat):1≤(Lib.decDigits n).length:=by
 rw[Lib.decDigits]
 split
 ·simp
 simp
theorem Kwc{n:Int}(h0:0≤n)(h1:n<1000000000):(Lib.itoa n).length≤9∧1≤(Lib.itoa n).length∧Kpq n=some (Lib.itoa n):=by
 refine⟨?_,?_,Kbv (by omega) (by omega)⟩
 ·obtain⟨u,rfl⟩:∃ u:Nat,n=(u:Int):=⟨n.toNat,by omega⟩
  rw[Kbq]
  exact Kwa 8 u (by omega)
 obtain⟨u,rfl⟩:∃ u:Nat,n=(u:Int):=⟨n.toNat,by omega⟩
 rw[Kbq]
 exact Kwb u
theorem Kwd(k:Nat)(hk:10<k)(n:Int)(w:Str)(a b c d:Int)(ha:0≤a∧a<1000000000)(hb:0≤b∧b<1000000000)(hc:0≤c∧c<1000000000)(hd:0≤d∧d<1000000000) :
  Kyg k ⟨4,n,w,(a,b,c,d)⟩=some (118 :: verT a b c d)∧Kys k ⟨4,n,w,(a,b,c,d)⟩=some (118 :: verT a b c d)∧(verT a b c d).length≤40:=by
 obtain⟨a1,a2,a3⟩:=Kwc ha.1 ha.2
 obtain⟨b1,b2,b3⟩:=Kwc hb.1 hb.2
 obtain⟨c1,c2,c3⟩:=Kwc hc.1 hc.2
 obtain⟨d1,d2,d3⟩:=Kwc hd.1 hd.2
 obtain⟨k,rfl⟩:∃ m,k=m+6:=⟨k - 6,by omega⟩
 have hl:(verT a b c d).length≤40:=by unfold verT;rw[Lib.join_length];simp[Lib.lens];omega
 have hJ:Kpt [Lib.itoa a,Lib.itoa b,Lib.itoa c,Lib.itoa d] [46]=some (verT a b c d):=by
  unfold Kpt
  rw[Nat.ble_eq_true_of_le (show([Lib.itoa a,Lib.itoa b,Lib.itoa c,Lib.itoa d]:List Str).length≤4294967296 by simp),Nat.ble_eq_true_of_le (show(Lib.join [Lib.itoa a,Lib.itoa b,Lib.itoa c,Lib.itoa d] [46]).length≤1099511627776 by have:(Lib.join [Lib.itoa a,Lib.itoa b,Lib.itoa c,Lib.itoa d] [46]).length≤40:=hl;omega)]
  rfl
 refine⟨?_,?_,hl⟩
 ·unfold Kyg Kyf
  rw[show((4:Int)==2)=false from rfl,show((4:Int)==1)=false from rfl,show((4:Int)==3)=false from rfl]
  simp only[cond_false]
  rw[Kcr ([Lib.itoa a],1) (by rw[show getZ ([a,b,c,d]:List Int) 0=some a from rfl,bi_some,a3];rfl)]
  rw[Kcr ([Lib.itoa a,Lib.itoa b],2) (by rw[show getZ ([a,b,c,d]:List Int) 1=some b from rfl,bi_some,b3];rfl)]
  rw[Kcr ([Lib.itoa a,Lib.itoa b,Lib.itoa c],3) (by rw[show getZ ([a,b,c,d]:List Int) 2=some c from rfl,bi_some,c3];rfl)]
  rw[Kcr ([Lib.itoa a,Lib.itoa b,Lib.itoa c,Lib.itoa d],4) (by rw[show getZ ([a,b,c,d]:List Int) 3=some d from rfl,bi_some,d3];rfl)]
  rw[Kcs [Lib.itoa a,Lib.itoa b,Lib.itoa c,Lib.itoa d] rfl,bi_some,hJ,bi_some,Kcp (by simp only[List.length_singleton];omega)]
  rfl
 ·unfold Kys
  rw[show((4:Int)==1)=false from rfl,show((4:Int)==3)=false from rfl,show((4:Int)==4)=true from rfl]
  simp only[cond_false,cond_true]
  rw[Kcr ([Lib.itoa a],1) (by rw[show getZ ([a,b,c,d]:List Int) 0=some a from rfl,bi_some,a3];rfl)]
  rw[Kcr ([Lib.itoa a,Lib.itoa b],2) (by rw[show getZ ([a,b,c,d]:List Int) 1=some b from rfl,bi_some,b3];rfl)]
  rw[Kcr ([Lib.itoa a,Lib.itoa b,Lib.itoa c],3) (by rw[show getZ ([a,b,c,d]:List Int) 2=some c from rfl,bi_some,c3];rfl)]
  rw[Kcr ([Lib.itoa a,Lib.itoa b,Lib.itoa c,Lib.itoa d],4) (by rw[show getZ ([a,b,c,d]:List Int) 3=some d from rfl,bi_some,d3];rfl)]
  rw[Kcs [Lib.itoa a,Lib.itoa b,Lib.itoa c,Lib.itoa d] rfl,bi_some,hJ,bi_some,Kcp (by simp only[List.length_singleton];omega)]
  rfl
theorem Kwe(k:Nat){n:Int}(w:Str)(v:Int×Int×Int×Int)(h1 : -9223372036854775808≤n)(h2:n≤9223372036854775807) :
  Kyg k ⟨1,n,w,v⟩=some (Lib.itoa n)∧Kys k ⟨1,n,w,v⟩=some (Lib.itoa n):=by
 constructor
 ·unfold Kyg Kyf
  rw[show((1:Int)==2)=false from rfl,show((1:Int)==1)=true from rfl]
  simp only[cond_false,cond_true]
  rw[Kbv h1 h2];rfl
 ·unfold Kys
  rw[show((1:Int)==1)=true from rfl]
  simp only[cond_true]
  rw[Kbv h1 h2];rfl
theorem Kwf(k:Nat){n:Int}(w:Str)(v:Int×Int×Int×Int)(h1:0≤n)(h2:n≤1) :
  Kyg k ⟨3,n,w,v⟩=some (if n=1 then[116,114,117,101] else[102,97,108,115,101])∧Kys k ⟨3,n,w,v⟩=some (if n=1 then[116,114,117,101] else[102,97,108,115,101]):=by
 obtain rfl | rfl:n=0∨n=1:=by omega
 ·exact⟨rfl,rfl⟩
 ·exact⟨rfl,rfl⟩
end Go.Gk
namespace Go.Gk
def Prt(n:Int):Prop:=(0≤n∧n<1000000000)∧∀ ch∈Lib.itoa n,dotB ch=true
theorem Kwo:Prt 0:=⟨by omega,by
 have:Lib.itoa 0=[48]:=by simp[Lib.itoa,Lib.decDigits]
 rw[this]
 decide⟩
theorem Kwp{x:Str}(h:numB x 9=true)(hd:∀ ch∈x,dotB ch=true):Prt (numV x):=by
 obtain⟨h1,h2,h3⟩:=Kby (m:=9) (by decide) h
 refine⟨⟨?_,by simpa using h3⟩,by rw[h1];exact hd⟩
 by_cases hn:0≤numV x
 ·exact hn
 exfalso
 obtain⟨u,hu⟩:∃ u:Nat,numV x=-(u:Int)∧1≤u:=⟨(-(numV x)).toNat,by omega,by omega⟩
 have:=Kbr u hu.2
 rw[←hu.1,h1] at this
 have h45:=hd 45 (by rw[this];exact mCs)
 revert h45
 decide
theorem Kwq{a b c d:Int}(ha:Prt a)(hb:Prt b)(hc:Prt c)(hd:Prt d):∀ ch∈verT a b c d,dotB ch=true:=by
 have e:verT a b c d=Lib.itoa a++46 :: (Lib.itoa b++46 :: (Lib.itoa c++46 :: Lib.itoa d)):=by
  unfold verT
  simp[Lib.join]
 rw[e]
 intro ch h
 simp only[List.mem_append,List.mem_cons] at h
 rcases h with h | h | h | h | h | h | h
 ·exact ha.2 ch h
 ·subst h;decide
 ·exact hb.2 ch h
 ·subst h;decide
 ·exact hc.2 ch h
 ·subst h;decide
 exact hd.2 ch h
theorem Kwr{p:UInt8→Bool}:∀ l:Str,(∀ b∈l,p b=true)→l.takeWhile p=l
 | [],_=>rfl
 | b :: l,h=>by rw[List.takeWhile_cons,if_pos (h b mCs),Kwr l fun c hc=>h c (mCo _ hc)]
theorem Kws(k:Nat)(hk:10<k){z:Str}{m:Nat}{v:Kxc}(hz:z.length≤50000)(hm:m≤z.length)(h:ValT z m v) :
  ∃ t,Kyg k v=some t∧Kys k v=some t∧(t=z→m=z.length):=by
 have key:∀ t:Str,z.take m=t→t=z→m=z.length:=fun t h1 h2=>by
  have:=congrArg List.length (h1.trans h2)
  rw[List.length_take] at this
  omega
 cases h with
 | num h=>
  obtain⟨h1,h2,h3⟩:=Kby (m:=9) (by decide) h
  obtain⟨p,r⟩:=Kwe k (n:=numV (z.take m)) [] (0,0,0,0) (by simp at h2;omega) (by simp at h3;omega)
  exact⟨_,p,r,key _ h1.symm⟩
 | words w hl h=>
  obtain⟨p,r⟩:=Kvz k 0 w (0,0,0,0) (by omega)
  exact⟨_,p,r,key _ h⟩
 | tt h=>exact⟨[116,114,117,101],rfl,rfl,key _ h⟩
 | ff h=>exact⟨[102,97,108,115,101],rfl,rfl,key _ h⟩
 | ver h hm'=>
  unfold verOk at h
  rw[Bool.and_eq_true] at h
  have hp:∀ x∈verP' z,Prt (numV x):=fun x hx=>by
   refine Kwp (lAe.1 h.1 x hx) fun ch hch=>?_
   have:=((Kcm 46 _ ((z.drop 1).takeWhile dotB) (Nat.le_refl _)).1 x hx).2 ch hch
   exact Kav _ ch this.1
  have hq:∀ i:Nat,Prt ((((verP' z).map numV)[i]?).getD 0):=fun i=>by
   cases hi:((verP' z).map numV)[i]? with
   | none=>exact Kwo
   | some y=>
    obtain⟨x,hx,rfl⟩:=List.mem_map.1 (mOg hi)
    exact hp x hx
  obtain⟨p,r,_⟩:=Kwd k hk 0 [] _ _ _ _ (hq 0).1 (hq 1).1 (hq 2).1 (hq 3).1
  refine⟨_,p,r,fun e=>?_⟩
  have hd:=Kwq (hq 0) (hq 1) (hq 2) (hq 3)
  generalize verT _ _ _ _=T at e hd
  subst e
  rw[hm']
  unfold verM
  rw[List.drop_one,List.tail_cons,Kwr T hd,List.length_cons]
  omega
theorem Kwt(k:Nat)(hk:10<k)(a:Kxc)(hw:a.Words.length≤50000)(h:Kxx k a=some 0) :
  ∃ t,Kyg k a=some t∧Kys k a=some t∧t.length≤250:=by
 unfold Kxx at h
 rw[Kak a.Words hw,verP k hk a] at h
 simp only[Kxv,bi_some] at h
 obtain⟨K,n,w,a0,b0,c0,d0⟩:=a
 simp only at h hw
 by_cases hr:1≤K∧K≤4
 ·rw[show(decide (K<1)||decide (K>4))=false by simp;omega,cond_false] at h
  obtain rfl | rfl | rfl | rfl:K=1∨K=2∨K=3∨K=4:=by omega
  ·by_cases hn : -100000000≤n∧n≤100000000
   ·obtain⟨p,r⟩:=Kwe k (n:=n) w (a0,b0,c0,d0) (by omega) (by omega)
    refine⟨_,p,r,?_⟩
    by_cases h0:0≤n
    ·have:=(Kwc h0 (by omega)).1;omega
    ·obtain⟨u,hu,hu1⟩:∃ u:Nat,n=-(u:Int)∧1≤u:=⟨(-n).toNat,by omega,by omega⟩
     rw[hu,Kbr u hu1,List.length_cons]
     have:=Kwa 8 u (by omega)
     omega
   ·have:(decide (n < -100000000)||decide (n>100000000))=true:=by simp;omega
    rw[this] at h
    cases h
  ·refine⟨_,(Kvz k n w (a0,b0,c0,d0) (by omega)).1,(Kvz k n w (a0,b0,c0,d0) (by omega)).2,?_⟩
   have hl:w.length≤100:=by
    by_cases hl:w.length≤100
    ·exact hl
    ·exfalso
     rw[dF hl,Bool.and_false] at h
     revert h
     cases ((n:Int) != 0)<;>intro h<;>cases h
   have:=(Kvx w).2
   simp;omega
  ·by_cases hn:0≤n∧n≤1
   ·obtain⟨p,r⟩:=Kwf k (n:=n) w (a0,b0,c0,d0) hn.1 hn.2
    refine⟨_,p,r,?_⟩
    split<;>simp
   ·have:(decide (n<0)||decide (n>1))=true:=by simp;omega
    rw[this] at h
    cases h
  ·by_cases hv:((vL ⟨4,n,w,(a0,b0,c0,d0)⟩).any fun x=>decide (x<0)||decide (x>1000000))=true
   ·exfalso
    revert h
    rw[show((4:Int)==4)=true from rfl]
    simp only[cond_true]
    rw[if_pos hv]
    cases ((n:Int) != 0)<;>cases ((w:Str)==[])<;>intro h<;>cases h
   ·unfold vL at hv
    simp at hv
    obtain⟨p,r,hl⟩:=Kwd k hk n w a0 b0 c0 d0 (by omega) (by omega) (by omega) (by omega)
    exact⟨_,p,r,by simp;omega⟩
 ·have:(decide (K<1)||decide (K>4))=true:=by simp;omega
  rw[this] at h
  cases h
end Go.Gk
