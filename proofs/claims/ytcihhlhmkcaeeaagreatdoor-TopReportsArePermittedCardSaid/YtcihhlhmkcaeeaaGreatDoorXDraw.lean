import Derived.Test.YtcihhlhmkcaeeaaGreatDoorTLoop
set_option linter.all false
set_option maxRecDepth 100000
set_option linter.unusedVariables false
namespace Go.Gk
def caZ(a:Kxe):Int:=bif ((!a.Six)&&(((a.Hi:Int) != 0)||(decide ((a.Lo:Int)≥4294967296)))) then 3 else 0
theorem Kvw(a:Kxe):Lan a=some (caZ a):=by
 unfold Lan caZ
 cases ((!a.Six)&&(((a.Hi:Int) != 0)||(decide ((a.Lo:Int)≥4294967296))))<;>rfl
def hpZ(p:Int):Bool:=((p:Int)==6)||((p:Int)==17)
def pfZ(q p:Int):Bool:=((decide ((p:Int)<0))||(decide ((p:Int)>65535)))||(((p:Int) != 0)&&!hpZ q)
def ffZ(f:Kxl):Int:=
 bif ((decide ((f.Proto:Int)<1))||(decide ((f.Proto:Int)>255))) then 1 else bif (caZ f.From != 0) then caZ f.From else bif (caZ f.To != 0) then caZ f.To else bif !((f.From.Six:Bool)==f.To.Six) then 10 else
  bif pfZ f.Proto f.FromPort then 1 else bif pfZ f.Proto f.ToPort then 1 else 0
theorem Kvx(f:Kxl):Lbd 400 f=some (ffZ f):=by
 unfold Lbd Lap Lba ffZ
 simp only[bi_some,Kvw]
 cases hp:((decide ((f.Proto:Int)<1))||(decide ((f.Proto:Int)>255)))
 ·simp only[cond_false]
  have l1:∀ g:Unit ⊕ Int→Option Int,bi (loopM (σ:=Int) (ρ:=Unit ⊕ Int) (fun s6=>bif decide ((s6:Int)<2) then(bi (getZ ([f.From,f.To]:List Kxe) s6) fun x16=>bif (caZ x16:Int) != 0 then(some (.out (.inr (caZ x16)))) else(some (.go (wi (s6+1))))) else(some (.out (.inl ())))) 400 0) g
    = bif (caZ f.From != 0) then g (.inr (caZ f.From)) else bif (caZ f.To != 0) then g (.inr (caZ f.To)) else g (.inl ()):=fun g=>by
   cases h1:(caZ f.From != 0)
   ·rw[show(400:Nat)=397+1+1+1 from rfl,Kai 1 (by show(bif (caZ f.From != 0) then _ else _)=_;rw[h1];rfl)]
    cases h2:(caZ f.To != 0)
    ·rw[Kai 2 (by show(bif (caZ f.To != 0) then _ else _)=_;rw[h2];rfl),Kaj (.inl ()) rfl];rfl
    ·rw[Kaj (.inr (caZ f.To)) (by show(bif (caZ f.To != 0) then _ else _)=_;rw[h2];rfl)];rfl
   ·rw[show(400:Nat)=399+1 from rfl,Kaj (.inr (caZ f.From)) (by show(bif (caZ f.From != 0) then _ else _)=_;rw[h1];rfl)];rfl
  rw[l1]
  cases h1:(caZ f.From != 0)
  ·simp only[cond_false]
   cases h2:(caZ f.To != 0)
   ·simp only[cond_false]
    show(bif !((f.From.Six:Bool)==f.To.Six) then _ else _)=_
    cases h3 : !((f.From.Six:Bool)==f.To.Six)
    ·simp only[cond_false]
     have l2:∀ g:Unit ⊕ Int→Option Int,bi (loopM (σ:=Int) (ρ:=Unit ⊕ Int) (fun s28=>bif decide ((s28:Int)<2) then(bi (getZ ([f.FromPort,f.ToPort]:List Int) s28) fun x38=>bi (bif ((decide ((x38:Int)<0))||(decide ((x38:Int)>65535))) then(some true) else(bi (bif (x38:Int) != 0 then(some (!(((f.Proto:Int)==6)||((f.Proto:Int)==17)))) else(some false)) fun q46=>some q46)) fun q42=>bif q42 then(some (.out (.inr 1))) else(some (.go (wi (s28+1))))) else(some (.out (.inl ())))) 400 0) g
       = bif pfZ f.Proto f.FromPort then g (.inr 1) else bif pfZ f.Proto f.ToPort then g (.inr 1) else g (.inl ()):=fun g=>by
      have e:∀ (x38:Int),(bi (bif ((decide ((x38:Int)<0))||(decide ((x38:Int)>65535))) then(some true) else(bi (bif (x38:Int) != 0 then(some (!(((f.Proto:Int)==6)||((f.Proto:Int)==17)))) else(some false)) fun q46=>some q46)) fun q42=>bif q42 then(some (LS.out (.inr 1):LS Int (Unit ⊕ Int))) else(some (.go (wi (0+1)))))=bif pfZ f.Proto x38 then(some (.out (.inr 1))) else(some (.go (wi (0+1)))):=fun x=>by
       unfold pfZ hpZ
       cases ((decide ((x:Int)<0))||(decide ((x:Int)>65535)))<;>cases ((x:Int) != 0)<;>cases (((f.Proto:Int)==6)||((f.Proto:Int)==17))<;>rfl
      have e':∀ (x38:Int),(bi (bif ((decide ((x38:Int)<0))||(decide ((x38:Int)>65535))) then(some true) else(bi (bif (x38:Int) != 0 then(some (!(((f.Proto:Int)==6)||((f.Proto:Int)==17)))) else(some false)) fun q46=>some q46)) fun q42=>bif q42 then(some (LS.out (.inr 1):LS Int (Unit ⊕ Int))) else(some (.go (wi (1+1)))))=bif pfZ f.Proto x38 then(some (.out (.inr 1))) else(some (.go (wi (1+1)))):=fun x=>by
       unfold pfZ hpZ
       cases ((decide ((x:Int)<0))||(decide ((x:Int)>65535)))<;>cases ((x:Int) != 0)<;>cases (((f.Proto:Int)==6)||((f.Proto:Int)==17))<;>rfl
      cases h1:pfZ f.Proto f.FromPort
      ·rw[show(400:Nat)=397+1+1+1 from rfl,Kai 1 ((e f.FromPort).trans (by rw[h1];rfl))]
       cases h2:pfZ f.Proto f.ToPort
       ·rw[Kai 2 ((e' f.ToPort).trans (by rw[h2];rfl)),Kaj (.inl ()) rfl];rfl
       ·rw[Kaj (.inr 1) ((e' f.ToPort).trans (by rw[h2];rfl))];rfl
      ·rw[show(400:Nat)=399+1 from rfl,Kaj (.inr 1) ((e f.FromPort).trans (by rw[h1];rfl))];rfl
     rw[l2]
     cases pfZ f.Proto f.FromPort<;>cases pfZ f.Proto f.ToPort<;>rfl
    rfl
   rfl
  rfl
 rfl
def bkF(f:Kxl):Kxl:=⟨f.Proto,f.To,f.From,f.ToPort,f.FromPort⟩
theorem Kvy(f:Kxl)(h:ffZ f=0):ffZ (bkF f)=0∧caZ f.From=0∧caZ f.To=0:=by
 unfold ffZ at h ⊢
 unfold bkF
 simp only at h ⊢
 cases hp:((decide ((f.Proto:Int)<1))||(decide ((f.Proto:Int)>255)))
 ·rw[hp] at h
  simp only[cond_false] at h ⊢
  cases h1:(caZ f.From != 0)
  ·rw[h1] at h
   simp only[cond_false] at h
   cases h2:(caZ f.To != 0)
   ·rw[h2] at h
    simp only[cond_false] at h ⊢
    have e1:caZ f.From=0:=by simpa using h1
    have e2:caZ f.To=0:=by simpa using h2
    refine⟨?_,e1,e2⟩
    cases h3:((f.From.Six:Bool)==f.To.Six)
    ·rw[h3] at h;cases h
    rw[h3] at h
    have h3':((f.To.Six:Bool)==f.From.Six)=true:=by rw[beq_iff_eq] at h3 ⊢;exact h3.symm
    rw[h3']
    cases h4:pfZ f.Proto f.FromPort<;>cases h5:pfZ f.Proto f.ToPort<;>rw[h4,h5] at h<;>first | rfl | cases h
   rw[h2] at h
   simp only[cond_true] at h
   rw[h] at h2;cases h2
  rw[h1] at h
  simp only[cond_true] at h
  rw[h] at h1;cases h1
 rw[hp] at h;cases h
theorem Kvz(f:Kxl)(h:ffZ f=0):Lek 400 f=some (bkF f,0):=by
 unfold Lek Lej
 rw[Kvx,h];rfl
end Go.Gk
namespace Go.Gk
theorem Kvb{l:List Int}{a b:Int}{s:Kxc}(h:At l a b s)(n:Int)(hl:l.length≤9223372036854775807)(h0:0≤a)(h1:b<4611686018427387904)(hn:1≤n)(hn2:n≤4611686018427387904) :
  Ok (Kxx s n) fun r=>0≤r.1∧r.1<n∧At l (a+1) (b+1) r.2:=by
 obtain⟨e1,e2,e3⟩:=h
 obtain⟨c,c1,c2,hc⟩:=Kts l s.v_at n hl (by omega) (by omega) hn hn2
 rw[←e1] at hc
 exact⟨_,hc,c1,c2,e1,by simp only;omega,by simp only;omega⟩
theorem Kvc{α β:Type}{l:List α}{i:Int}{g:α→Option β}{Q:β→Prop}(h0:0≤i)(h1:i<l.length)(k:∀ x,l[i.toNat]?=some x→Ok (g x) Q):Ok (bi (getZ l i) g) Q:=by
 obtain⟨j,rfl⟩:=Int.eq_ofNat_of_zero_le h0
 obtain⟨x,hx⟩:∃ x,l[j]?=some x:=⟨l[j]'(by omega),List.getElem?_eq_getElem (by omega)⟩
 exact Kam (Kue hx) (k x (by simpa using hx))
def memT(more:Str):List Str:=[[97,110,110],[99,105,100],more]
theorem Kvd{l:List Int}{a b:Int}{s:Kxc}(more:Str)(h:At l a b s)(hl:l.length≤9223372036854775807)(h0:0≤a)(h1:b<4611686018427300000) :
  Ok (Kye s more) fun r=>(r.1.length≤3∧∀ x∈r.1,x∈memT more)∧At l a (b+3) r.2:=by
 unfold Kye
 refine Kal (P:=fun r:Kxc×List Str=>At l a (b+3) r.1∧r.2.length≤3∧∀ x∈r.2,x∈memT more) ?_ fun r hr=>Kak ⟨hr.2,hr.1⟩
 refine Kan (Kaq (fun i r=>At l a (b+i) r.1∧r.2.length≤i∧∀ x∈r.2,x∈memT more) ⟨h.up (by omega) (by omega),by simp,fun x hx=>by cases hx⟩ ?_) ?_
 ·rintro i x ⟨s,c⟩ hx ⟨g1,g2,g3⟩
  have hi:i<3:=by have:=(List.getElem?_eq_some_iff.1 hx).1;simpa using this
  have g2':c.length≤i:=g2
  have hk:x∈memT more:=List.mem_of_getElem? hx
  refine Kal (Kax g1 2 hl h0 (by simp only at *;omega) (by decide) (by decide)) fun y hy=>?_
  refine Kao (fun _=>?_) fun _=>Kak ⟨hy.up (by omega) (by omega),Nat.le_succ_of_le g2',g3⟩
  refine Kav (by simp only[List.length_singleton];omega) (Kak ⟨hy.up (by omega) (by omega),by simp only[List.length_append,List.length_singleton];omega,fun w hw=>?_⟩)
  rcases List.mem_append.1 hw with hw | hw
  ·exact g3 w hw
  ·simp only[List.mem_singleton] at hw
   subst hw;exact hk
 ·rintro⟨s,c⟩ ⟨g1,g2,g3⟩
  exact⟨g1.up (by omega) (by simp),by simpa using g2,g3⟩
def zP:Kxf:=⟨⟨false,0,0⟩,0⟩
def netT:List Kxf:=[zP,⟨⟨false,0,167772160⟩,8⟩,⟨⟨false,0,167772160⟩,12⟩,⟨⟨false,0,167772160⟩,24⟩,⟨⟨false,0,1681915904⟩,10⟩,⟨⟨false,0,1681915904⟩,30⟩,⟨⟨false,0,1681915904⟩,31⟩]
def nmT:Int→List Str
 | 2=>[[97,110,110],[98,111,98],[122,101,100]]
 | 3=>[[100,101,118],[101,110,103],[111,112,115]]
 | 4=>[[119,101,98],[100,98],[110,111,110,101]]
 | 5=>[[110,97],[110,98],[110,122]]
 | 6=>[[108,97,98],[110,101,116,54]]
 | _=>[[]]
def wOk(w:Kxh):Prop:=w.Kind∈([1,2,3,4,5,6,7,8,9,10]:List Int)∧w.Name∈nmT w.Kind∧w.Net∈netT
theorem Kve{l:List Int}{a b:Int}{s:Kxc}(self:Bool)(h:At l a b s)(hl:l.length≤9223372036854775807)(h0:0≤a)(h1:b<4611686018427300000) :
  Ok (Kyl 400 s self) fun r=>wOk r.1∧At l a (b+5) r.2:=by
 unfold Kyl
 refine Kal (Kay h _ hl h0 (by omega) (by simp) (by simp)) fun k hk=>?_
 refine Kal (P:=fun r:Kxc×Bool=>At l a (b+2) r.1) ?_ fun q hq=>?_
 ·refine Kao (fun _=>?_) fun _=>Kak (hk.2.up (by omega) (by omega))
  exact Kal (Kax hk.2 5 hl (by omega) (by omega) (by decide) (by decide)) fun y hy=>Kak (hy.up (by omega) (by omega))
 refine Kao (fun _=>Kak ⟨⟨by simp,by simp[nmT],by simp[netT,zP]⟩,hq.up (by omega) (by omega)⟩) fun _=>?_
 refine Kal (P:=fun r:Kxc×Kxh=>wOk r.2∧At l a (b+5) r.1) ?_ fun r hr=>Kak hr
 have z:zP∈netT:=by simp[netT]
 have kk:k.1∈([1,2,3,4,5,6,7,8,9,10]:List Int):=by
  have:=hk.1
  simp only[List.mem_cons,List.not_mem_nil,or_false] at this ⊢
  omega
 refine Kao (fun e=>?_) fun n2=>Kao (fun e=>?_) fun n3=>Kao (fun e=>?_) fun n4=>Kao (fun e=>?_) fun n5=>Kao (fun e=>?_) fun n6=>Kao (fun e=>?_) fun n7=>Kak ⟨⟨kk,?_,z⟩,hq.up (by omega) (by omega)⟩
 ·have e:k.1=2:=by simpa using e
  exact Kal (Kaz hq _ hl (by omega) (by omega) (by simp) (by simp)) fun y hy=>Kak ⟨⟨kk,by rw[e];exact hy.1,z⟩,hy.2.up (by omega) (by omega)⟩
 ·have e:k.1=3:=by simpa using e
  exact Kal (Kaz hq _ hl (by omega) (by omega) (by simp) (by simp)) fun y hy=>Kak ⟨⟨kk,by rw[e];exact hy.1,z⟩,hy.2.up (by omega) (by omega)⟩
 ·have e:k.1=4:=by simpa using e
  exact Kal (Kaz hq _ hl (by omega) (by omega) (by simp) (by simp)) fun y hy=>Kak ⟨⟨kk,by rw[e];exact hy.1,z⟩,hy.2.up (by omega) (by omega)⟩
 ·have e:k.1=5:=by simpa using e
  exact Kal (Kaz hq _ hl (by omega) (by omega) (by simp) (by simp)) fun y hy=>Kak ⟨⟨kk,by rw[e];exact hy.1,z⟩,hy.2.up (by omega) (by omega)⟩
 ·have e:k.1=6:=by simpa using e
  exact Kal (Kaz hq _ hl (by omega) (by omega) (by simp) (by simp)) fun y hy=>Kak ⟨⟨kk,by rw[e];exact hy.1,z⟩,hy.2.up (by omega) (by omega)⟩
 ·have e:k.1=7:=by simpa using e
  refine Kal (Kay hq _ hl (by omega) (by omega) (by simp) (by simp)) fun y hy=>?_
  refine Kal (Kax hy.2 3 hl (by omega) (by omega) (by decide) (by decide)) fun f hf=>?_
  refine Kao (fun _=>?_) fun _=>Kak ⟨⟨kk,by rw[e];simp[nmT],?_⟩,hf.up (by omega) (by omega)⟩
  ·refine Kam (r:=⟨false,0,1681915904⟩) rfl (Kal (Kay hf _ hl (by omega) (by omega) (by simp) (by simp)) fun p hp=>?_)
   have hm:∃ q,Kyk 400 ⟨false,0,1681915904⟩ p.1=some q∧q∈netT:=by
    have:=hp.1
    simp only[List.mem_cons,List.not_mem_nil,or_false] at this
    rcases this with e | e | e<;>rw[e]
    ·exact⟨⟨⟨false,0,1681915904⟩,10⟩,by decide +kernel,by decide⟩
    ·exact⟨⟨⟨false,0,1681915904⟩,30⟩,by decide +kernel,by decide⟩
    ·exact⟨⟨⟨false,0,1681915904⟩,31⟩,by decide +kernel,by decide⟩
   obtain⟨q,e1,e2⟩:=hm
   exact Kam e1 (Kak ⟨⟨kk,by rw[e];simp[nmT],e2⟩,hp.2.up (by omega) (by omega)⟩)
  ·have:=hy.1
   simp only[List.mem_cons,List.not_mem_nil,or_false] at this
   rcases this with e | e | e<;>rw[e]<;>simp[netT]
 ·have h2:¬ k.1=2:=by simpa using n2
  have h3:¬ k.1=3:=by simpa using n3
  have h4:¬ k.1=4:=by simpa using n4
  have h5:¬ k.1=5:=by simpa using n5
  have h6:¬ k.1=6:=by simpa using n6
  have h7:¬ k.1=7:=by simpa using n7
  simp only[List.mem_cons,List.not_mem_nil,or_false] at kk
  rcases kk with e | e | e | e | e | e | e | e | e | e<;>first | omega | (show[]∈nmT k.1;rw[e];simp[nmT])
end Go.Gk
namespace Go.Gk
theorem Lmr{l:List Int}{a b:Int}{s:Kxc}(h:At l a b s)(hl:l.length≤9223372036854775807)(h0:0≤a)(h1:b<4611686018427300000) :
  Ok (Kym s) fun r=>At l a (b+3) r.2:=by
 unfold Kym
 refine Kal (Kvb h 5 hl h0 (by omega) (by decide) (by decide)) fun y hy=>?_
 refine Kal (P:=fun _=>True) (Kao (fun _=>Kak trivial) fun _=>Kak trivial) fun q _=>?_
 refine Kao (fun _=>Kak (hy.2.2.up (by omega) (by omega))) fun _=>Kao (fun _=>?_) fun _=>Kao (fun _=>?_) fun _=>?_
 ·exact Kal (Kay hy.2.2 _ hl (by omega) (by omega) (by simp) (by simp)) fun p hp=>Kak (hp.2.up (by omega) (by omega))
 ·exact Kal (Kay hy.2.2 _ hl (by omega) (by omega) (by simp) (by simp)) fun p hp=>Kak (hp.2.up (by omega) (by omega))
 ·refine Kal (Kay hy.2.2 _ hl (by omega) (by omega) (by simp) (by simp)) fun p hp=>?_
  have:=hp.1
  simp only[List.mem_cons,List.not_mem_nil,or_false] at this
  exact Kal (Kba hp.2 p.1 200 hl (by omega) (by omega) (by omega) (by omega) (by omega)) fun q hq=>Kak (hq.2.2.up (by omega) (by omega))
def gOk(g:Kxk):Prop:=(g.Src.length≤2∧∀ w∈g.Src,wOk w)∧(g.Dst.length≤2∧∀ t∈g.Dst,wOk t.What)∧g.Postures.length≤2∧∀ p∈g.Postures,p.length≤6
theorem Lms{l:List Int}{a b:Int}{s:Kxc}(h:At l a b s)(hl:l.length≤9223372036854775807)(h0:0≤a)(h1:b<4611686018427200000) :
  Ok (Kyn 400 s) fun r=>gOk r.1∧At l a (b+40) r.2:=by
 unfold Kyn
 refine Kal (Kay h _ hl h0 (by omega) (by simp) (by simp)) fun pr hpr=>?_
 refine Kal (Kay hpr.2 _ hl (by omega) (by omega) (by simp) (by simp)) fun n hn=>?_
 have hn1:n.1=1∨n.1=2:=by have:=hn.1;simp only[List.mem_cons,List.not_mem_nil,or_false] at this;omega
 refine Kal (P:=fun r:Kxc×List Kxh=>At l a (b+12) r.1∧r.2.length≤2∧∀ w∈r.2,wOk w) (Kap (by simp;omega) (Kan (Kar (fun i r=>At l a (b+2+5 * i) r.1∧r.2.length≤i∧∀ w∈r.2,wOk w) ⟨hn.2.up (by omega) (by omega),by simp,fun w hw=>by cases hw⟩ ?_) ?_)) ?_
 ·rintro i ⟨s,c⟩ hi ⟨g1,g2,g3⟩
  have hi:i<2:=by omega
  have g2':c.length≤i:=g2
  refine Kal (Kve false g1 hl h0 (by simp only at *;omega)) fun y hy=>?_
  refine Kav (by simp only[List.length_singleton];omega) (Kak ⟨hy.2.up (by omega) (by omega),by simp only[List.length_append,List.length_singleton];omega,fun w hw=>?_⟩)
  rcases List.mem_append.1 hw with hw | hw
  ·exact g3 w hw
  ·simp only[List.mem_singleton] at hw
   subst hw;exact hy.1
 ·rintro⟨s,c⟩ ⟨g1,g2,g3⟩
  exact⟨g1.up (by omega) (by omega),by omega,g3⟩
 rintro⟨s1,src⟩ ⟨k1,k2,k3⟩
 refine Kal (Kay k1 _ hl (by omega) (by omega) (by simp) (by simp)) fun m hm=>?_
 have hm1:m.1=1∨m.1=2:=by have:=hm.1;simp only[List.mem_cons,List.not_mem_nil,or_false] at this;omega
 refine Kal (P:=fun r:Kxc×List Kxj=>At l a (b+33) r.1∧r.2.length≤2∧∀ t∈r.2,wOk t.What) (Kap (by simp;omega) (Kan (Kar (fun i r=>At l a (b+13+10 * i) r.1∧r.2.length≤i∧∀ t∈r.2,wOk t.What) ⟨hm.2.up (by omega) (by omega),by simp,fun w hw=>by cases hw⟩ ?_) ?_)) ?_
 ·rintro i ⟨s,c⟩ hi ⟨g1,g2,g3⟩
  have hi:i<2:=by omega
  have g2':c.length≤i:=g2
  refine Kal (Kve true g1 hl h0 (by simp only at *;omega)) fun y hy=>?_
  refine Kal (Lmr hy.2 hl h0 (by omega)) fun p hp=>?_
  refine Kal (P:=fun t:Kxj=>wOk t.What) (Kao (fun _=>Kak hy.1) fun _=>Kak hy.1) fun t ht=>?_
  refine Kav (by simp only[List.length_singleton];omega) (Kak ⟨hp.up (by omega) (by omega),by simp only[List.length_append,List.length_singleton];omega,fun w hw=>?_⟩)
  rcases List.mem_append.1 hw with hw | hw
  ·exact g3 w hw
  ·simp only[List.mem_singleton] at hw
   subst hw;exact ht
 ·rintro⟨s,c⟩ ⟨g1,g2,g3⟩
  exact⟨g1.up (by omega) (by omega),by omega,g3⟩
 rintro⟨s2,dst⟩ ⟨k4,k5,k6⟩
 refine Kal (Kax k4 4 hl (by omega) (by omega) (by decide) (by decide)) fun f hf=>?_
 refine Kal (P:=fun r:Kxc×List Str=>At l a (b+40) r.1∧r.2.length≤2∧∀ p∈r.2,p.length≤6) ?_ fun r hr=>Kak ⟨⟨⟨k2,k3⟩,⟨k5,k6⟩,hr.2⟩,hr.1⟩
 refine Kao (fun _=>?_) fun _=>Kak ⟨hf.up (by omega) (by omega),by simp,fun p hp=>by cases hp⟩
 refine Kal (Kvb hf 3 hl (by omega) (by omega) (by decide) (by decide)) fun z hz=>?_
 refine Kvc hz.1 (by simpa using hz.2.1) fun w hw=>Kak ⟨hz.2.2.up (by omega) (by omega),?_⟩
 have:=List.mem_of_getElem? hw
 simp only[List.mem_cons,List.not_mem_nil,or_false] at this
 rcases this with e | e | e<;>subst e<;>simp
def aOk(a:Kxe):Prop:=0≤a.Hi∧a.Hi<18446744073709551616∧0≤a.Lo∧a.Lo<18446744073709551616
theorem Lmt(n:Int):0≤IntKind.u64.wrap n∧IntKind.u64.wrap n<18446744073709551616:=by
 show 0≤n % 18446744073709551616∧n % 18446744073709551616<18446744073709551616
 omega
theorem at_o(n:Int):∃ x,Kya n=some x∧aOk x:=⟨_,rfl,Int.le_refl 0,(by decide:(0:Int)<18446744073709551616),Lmt _⟩
theorem Lmu(n:Int):∃ x,Kyb n=some x∧aOk x:=⟨_,rfl,(by decide:(0:Int)≤18230571291595767808),(by decide:(18230571291595767808:Int)<18446744073709551616),Lmt _⟩
def fOk(f:Kxl):Prop:=aOk f.From∧aOk f.To
theorem Lmv{l:List Int}{a b:Int}{s:Kxc}(h:At l a b s)(hl:l.length≤9223372036854775807)(h0:0≤a)(h1:b<4611686018427300000) :
  Ok (Kyo s) fun r=>fOk r.1∧At l a (b+12) r.2:=by
 unfold Kyo
 refine Kal (Kay h _ hl h0 (by omega) (by simp) (by simp)) fun pr hpr=>?_
 refine Kal (Kba hpr.2 0 5 hl (by omega) (by omega) (by decide) (by decide) (by decide)) fun q1 hq1=>?_
 obtain⟨x1,e1,o1⟩:=at_o q1.1
 refine Kam e1 (Kal (Kba hq1.2.2 0 5 hl (by omega) (by omega) (by decide) (by decide) (by decide)) fun q2 hq2=>?_)
 obtain⟨x2,e2,o2⟩:=at_o q2.1
 refine Kam e2 (Kal (Kax hq2.2.2 4 hl (by omega) (by omega) (by decide) (by decide)) fun f hf=>?_)
 refine Kal (P:=fun r:Kxc×Kxl=>At l a (b+5) r.1∧fOk r.2) ?_ fun r hr=>?_
 ·refine Kao (fun _=>?_) fun _=>Kak ⟨hf.up (by omega) (by omega),o1,o2⟩
  exact Kal (Kay hf _ hl (by omega) (by omega) (by simp) (by simp)) fun y hy=>Kak ⟨hy.2.up (by omega) (by omega),o1,Int.le_refl 0,(by decide:(0:Int)<18446744073709551616),Lmt _⟩
 refine Kal (Kax hr.1 5 hl (by omega) (by omega) (by decide) (by decide)) fun g hg=>?_
 refine Kal (P:=fun r:Kxc×Kxl=>At l a (b+8) r.1∧fOk r.2) ?_ fun r' hr'=>?_
 ·refine Kao (fun _=>?_) fun _=>Kak ⟨hg.up (by omega) (by omega),hr.2⟩
  refine Kal (Kba hg 0 5 hl (by omega) (by omega) (by decide) (by decide) (by decide)) fun q3 hq3=>?_
  obtain⟨x3,e3,o3⟩:=Lmu q3.1
  refine Kam e3 (Kal (Kba hq3.2.2 0 5 hl (by omega) (by omega) (by decide) (by decide) (by decide)) fun q4 hq4=>?_)
  obtain⟨x4,e4,o4⟩:=Lmu q4.1
  exact Kam e4 (Kak ⟨hq4.2.2.up (by omega) (by omega),o3,o4⟩)
 refine Kal (P:=fun r:Kxc×Kxl=>At l a (b+12) r.1∧fOk r.2) ?_ fun r hr=>Kak ⟨hr.2,hr.1⟩
 refine Kao (fun _=>?_) fun _=>Kak ⟨hr'.1.up (by omega) (by omega),hr'.2⟩
 refine Kal (Kay hr'.1 _ hl (by omega) (by omega) (by simp) (by simp)) fun p1 hp1=>?_
 exact Kal (Kay hp1.2 _ hl (by omega) (by omega) (by simp) (by simp)) fun p2 hp2=>Kak ⟨hp2.2.up (by omega) (by omega),hr'.2⟩
structure PolOk(p:Kxn):Prop where
 gs:∃ m1 m2 m3,p.Groups=[⟨[100,101,118],m1⟩,⟨[101,110,103],m2⟩,⟨[111,112,115],m3⟩]∧(m1.length≤3∧∀ x∈m1,x∈memT [98,111,98])∧(m2.length≤3∧∀ x∈m2,x∈memT [64,100,101,118])∧m3.length≤3∧∀ x∈m3,x∈memT [64,101,110,103]
 hs:∃ b1 b2,p.Hosts=[⟨[108,97,98],⟨⟨false,0,167772160⟩,b1⟩⟩,⟨[110,101,116,54],⟨⟨true,18230571291595767808,0⟩,b2⟩⟩]∧b1∈([8,16,31]:List Int)∧b2∈([8,64,127]:List Int)
 gr:p.Grants.length≤4∧∀ g∈p.Grants,gOk g
 ts:p.Tests.length≤2
theorem Lmw{l:List Int}{a b:Int}{s:Kxc}(h:At l a b s)(hl:l.length≤9223372036854775807)(h0:0≤a)(h1:b<4611686018427100000) :
  Ok (Kyp 400 s 4) fun r=>PolOk r.1∧At l a (b+250) r.2:=by
 unfold Kyp
 refine Kal (Kvd _ h hl h0 (by omega)) fun m1 hm1=>?_
 refine Kal (Kvd _ hm1.2 hl h0 (by omega)) fun m2 hm2=>?_
 refine Kal (Kvd _ hm2.2 hl h0 (by omega)) fun m3 hm3=>?_
 refine Kal (Kay hm3.2 _ hl h0 (by omega) (by simp) (by simp)) fun b1 hb1=>?_
 refine Kal (Kay hb1.2 _ hl (by omega) (by omega) (by simp) (by simp)) fun b2 hb2=>?_
 refine Kal (Kba hb2.2 0 4 hl (by omega) (by omega) (by decide) (by decide) (by decide)) fun n hn=>?_
 have hn0:=hn.1
 have hn1:=hn.2.1
 refine Kal (P:=fun r:Kxc×List Kxk=>At l a (b+200) r.1∧r.2.length≤4∧∀ g∈r.2,gOk g) (Kap (by simp;omega) (Kan (Kar (fun i r=>At l a (b+12+40 * i) r.1∧r.2.length≤i∧∀ g∈r.2,gOk g) ⟨hn.2.2.up (by omega) (by omega),by simp,fun w hw=>by cases hw⟩ ?_) ?_)) ?_
 ·rintro i ⟨s,c⟩ hi ⟨g1,g2,g3⟩
  have hi:i<4:=by omega
  have g2':c.length≤i:=g2
  refine Kal (Lms g1 hl h0 (by simp only at *;omega)) fun y hy=>?_
  refine Kav (by simp only[List.length_singleton];omega) (Kak ⟨hy.2.up (by omega) (by omega),by simp only[List.length_append,List.length_singleton];omega,fun w hw=>?_⟩)
  rcases List.mem_append.1 hw with hw | hw
  ·exact g3 w hw
  ·simp only[List.mem_singleton] at hw
   subst hw;exact hy.1
 ·rintro⟨s,c⟩ ⟨g1,g2,g3⟩
  exact⟨g1.up (by omega) (by omega),by omega,g3⟩
 rintro⟨s1,gr⟩ ⟨k1,k2,k3⟩
 refine Kal (Kay k1 _ hl (by omega) (by omega) (by simp) (by simp)) fun m hm=>?_
 have hm0:0≤m.1∧m.1≤2:=by have:=hm.1;simp only[List.mem_cons,List.not_mem_nil,or_false] at this;omega
 refine Kal (P:=fun r:Kxc×List Kxm=>At l a (b+250) r.1∧r.2.length≤2) (Kap (by simp;omega) (Kan (Kar (fun i r=>At l a (b+201+13 * i) r.1∧r.2.length≤i) ⟨hm.2.up (by omega) (by omega),by simp⟩ ?_) ?_)) ?_
 ·rintro i ⟨s,c⟩ hi ⟨g1,g2⟩
  have hi:i<2:=by omega
  have g2':c.length≤i:=g2
  refine Kal (Lmv g1 hl h0 (by simp only at *;omega)) fun y hy=>?_
  refine Kal (Kax hy.2 2 hl h0 (by omega) (by decide) (by decide)) fun z hz=>?_
  exact Kav (by simp only[List.length_singleton];omega) (Kak ⟨hz.up (by omega) (by omega),by simp only[List.length_append,List.length_singleton];omega⟩)
 ·rintro⟨s,c⟩ ⟨g1,g2⟩
  exact⟨g1.up (by omega) (by omega),by omega⟩
 rintro⟨s2,ts⟩ ⟨k4,k5⟩
 exact Kak ⟨⟨⟨m1.1,m2.1,m3.1,rfl,hm1.1,hm2.1,hm3.1.1,hm3.1.2⟩,⟨b1.1,b2.1,rfl,hb1.1,hb2.1⟩,⟨k2,k3⟩,k5⟩,k4⟩
end Go.Gk
namespace Go.Gk
def keyN:List Str:=[[110,97],[110,98],[110,99],[110,100]]
def nameN:List Str:=[[110,97],[110,98],[110,99],[110,100],[98,111,120],[119,101,98]]
def userN:List Str:=[[97,110,110],[98,111,98],[99,105,100],[]]
def tagN:List (List Str):=[[],[[119,101,98]],[[100,98]],[[100,98],[119,101,98]]]
def routeN:List Kxf:=[⟨⟨false,0,167772160⟩,8⟩,⟨⟨false,0,167772160⟩,16⟩,⟨⟨false,0,167772160⟩,24⟩,⟨⟨false,0,0⟩,0⟩,⟨⟨true,0,0⟩,0⟩]
structure nOk(n:Kxo):Prop where
 key:n.Key∈keyN
 name:n.Name∈nameN
 user:n.User∈userN
 tags:n.Tags∈tagN
 addrs:n.Addrs.length≤2∧∀ a∈n.Addrs,aOk a
 routes:n.Routes.length≤2∧∀ p∈n.Routes,p∈routeN
theorem memN{x:Str}{xs T:List Str}(h:xs.all (fun y=>decide (y∈T))=true)(hx:x∈xs):x∈T:=by
 have:=List.all_eq_true.1 h x hx
 simpa using this
theorem Kwx{l:List Int}{a b:Int}{s:Kxc}(h:At l a b s)(hl:l.length≤9223372036854775807)(h0:0≤a)(h1:b<4611686018427300000) :
  Ok (Kyd s 4) fun r=>(r.1.length≤4∧∀ n∈r.1,nOk n)∧At l a (b+48) r.2:=by
 unfold Kyd
 rw[show(if (5:Int)<4 then(5:Int) else 4)=4 from rfl,show subZ ([[110,97],[110,98],[110,99],[110,100],[110,101]]:List Str) 0 4=some [[110,97],[110,98],[110,99],[110,100]] from rfl]
 simp only[bi_some]
 refine Kal (P:=fun r:Kxc×List Kxo=>At l a (b+48) r.1∧r.2.length≤4∧∀ n∈r.2,nOk n) ?_ fun r hr=>Kak ⟨⟨hr.2.1,hr.2.2⟩,hr.1⟩
 refine Kan (Kaq (fun i r=>At l a (b+12 * i) r.1∧r.2.length≤i∧∀ n∈r.2,nOk n) ⟨h.up (by omega) (by omega),by simp,fun x hx=>by cases hx⟩ ?_) ?_
 ·rintro i x ⟨s,c⟩ hx ⟨g1,g2,g3⟩
  have hi:i<4:=by have:=(List.getElem?_eq_some_iff.1 hx).1;simpa using this
  have g2':c.length≤i:=g2
  have hk:x∈keyN:=List.mem_of_getElem? hx
  have hkn:x∈nameN:=memN (by decide) hk
  refine Kal (Kax g1 6 hl h0 (by simp only at *;omega) (by decide) (by decide)) fun y hy=>?_
  refine Kao (fun _=>Kak ⟨hy.up (by omega) (by omega),Nat.le_succ_of_le g2',g3⟩) fun _=>?_
  refine Kal (Kaz hy _ hl (by omega) (by omega) (by simp) (by simp)) fun nm hnm=>?_
  have hnn:nm.1∈nameN:=by
   have:=hnm.1
   simp only[List.mem_cons,List.not_mem_nil,or_false] at this
   rcases this with e | e | e | e<;>rw[e]<;>first | exact hkn | decide
  refine Kal (Kaz hnm.2 _ hl (by omega) (by omega) (by simp) (by simp)) fun us hus=>?_
  have huu:us.1∈userN:=memN (by decide) hus.1
  refine Kal (P:=fun r:Kxc×List Str=>At l a (b+12 * i+4) r.1∧r.2∈tagN) ?_ fun tg htg=>?_
  ·refine Kao (fun _=>?_) fun _=>Kak ⟨hus.2.up (by omega) (by omega),by simp[tagN]⟩
   refine Kal (Kvb hus.2 3 hl (by omega) (by omega) (by decide) (by decide)) fun z hz=>?_
   exact Kvc hz.1 (by simpa using hz.2.1) fun w hw=>Kak ⟨hz.2.2.up (by omega) (by omega),List.mem_cons_of_mem _ (List.mem_of_getElem? hw)⟩
  refine Kal (Kax htg.1 8 hl h0 (by omega) (by decide) (by decide)) fun f1 hf1=>?_
  obtain⟨ad,had,had2⟩:=at_o (wi ((i:Int)+1))
  obtain⟨ax,hax,hax2⟩:=Lmu (wi ((i:Int)+1))
  refine Kal (P:=fun r:List Kxe=>r.length≤1∧∀ a∈r,aOk a) ?_ fun A1 hA1=>?_
  ·refine Kao (fun _=>?_) fun _=>Kak ⟨by simp,fun a h=>by cases h⟩
   refine Kam had (Kav (by simp) (Kak ⟨by simp,fun a h=>?_⟩))
   simp only[List.nil_append,List.mem_singleton] at h
   subst h;exact had2
  refine Kal (Kax hf1 3 hl (by omega) (by omega) (by decide) (by decide)) fun f2 hf2=>?_
  refine Kal (P:=fun r:List Kxe=>r.length≤2∧∀ a∈r,aOk a) ?_ fun A2 hA2=>?_
  ·refine Kao (fun _=>?_) fun _=>Kak ⟨by omega,hA1.2⟩
   refine Kam hax (Kav (by simp;omega) (Kak ⟨by simp;omega,fun a h=>?_⟩))
   rcases List.mem_append.1 h with h | h
   ·exact hA1.2 a h
   ·simp only[List.mem_singleton] at h
    subst h;exact hax2
  refine Kal (Kax hf2 3 hl (by omega) (by omega) (by decide) (by decide)) fun f3 hf3=>?_
  refine Kal (P:=fun r:Kxc×List Kxf=>At l a (b+12 * i+8) r.1∧r.2.length≤1∧∀ p∈r.2,p∈routeN) ?_ fun R1 hR1=>?_
  ·refine Kao (fun _=>?_) fun _=>Kak ⟨hf3.up (by omega) (by omega),by simp,fun p hp=>by cases hp⟩
   refine Kal (Kay hf3 _ hl (by omega) (by omega) (by simp) (by simp)) fun z hz=>?_
   refine Kav (by simp) (Kak ⟨hz.2.up (by omega) (by omega),by simp,fun p hp=>?_⟩)
   simp only[List.nil_append,List.mem_singleton] at hp
   subst hp
   have:=hz.1
   simp only[List.mem_cons,List.not_mem_nil,or_false] at this
   rcases this with e | e | e<;>rw[e]<;>simp[routeN]
  refine Kal (Kax hR1.1 6 hl (by omega) (by omega) (by decide) (by decide)) fun f4 hf4=>?_
  refine Kal (P:=fun r:Kxc×List Kxf=>At l a (b+12 * i+10) r.1∧r.2.length≤2∧∀ p∈r.2,p∈routeN) ?_ fun R2 hR2=>?_
  ·refine Kao (fun _=>?_) fun _=>Kak ⟨hf4.up (by omega) (by omega),Nat.le_succ_of_le hR1.2.1,hR1.2.2⟩
   refine Kal (Kax hf4 3 hl (by omega) (by omega) (by decide) (by decide)) fun z hz=>?_
   have:=hR1.2.1
   refine Kav (by simp;omega) (Kak ⟨hz.up (by omega) (by omega),by simp;omega,fun p hp=>?_⟩)
   rcases List.mem_append.1 hp with hp | hp
   ·exact hR1.2.2 p hp
   ·simp only[List.mem_singleton] at hp
    subst hp
    cases z.1<;>simp[routeN]
  refine Kav (by simp only[List.length_singleton];omega) (Kak ⟨hR2.1.up (by omega) (by omega),by simp only[List.length_append,List.length_singleton];omega,fun w hw=>?_⟩)
  rcases List.mem_append.1 hw with hw | hw
  ·exact g3 w hw
  ·simp only[List.mem_singleton] at hw
   subst hw
   exact⟨hk,hnn,huu,htg.2,hA2,hR2.2⟩
 ·rintro⟨s,c⟩ ⟨g1,g2,g3⟩
  exact⟨g1.up (by omega) (by simp),by simpa using g2,g3⟩
def factN:List Str:=[[102,114,101,115,104],[115,101,97,108,101,100],[],[65]]
def fcOk(f:Kxp):Prop:=f.Node∈([110,111,110,101] :: keyN)∧f.Posture∈factN
theorem Kwy{l:List Int}{a b:Int}{s:Kxc}(ns:List Kxo)(hn:ns.length≤4)(hns:∀ n∈ns,nOk n)(h:At l a b s)(hl:l.length≤9223372036854775807)(h0:0≤a)(h1:b<4611686018427300000) :
  Ok (Kyq s ns) fun r=>(r.1.length≤9∧∀ f∈r.1,fcOk f)∧At l a (b+11) r.2:=by
 unfold Kyq
 refine Kal (P:=fun r:Kxc×List Kxp=>At l a (b+8) r.1∧r.2.length≤8∧∀ f∈r.2,fcOk f) (Kan (Kaq (fun i r=>At l a (b+2 * i) r.1∧r.2.length≤2 * i∧∀ f∈r.2,fcOk f) ⟨h.up (by omega) (by omega),by simp,fun x hx=>by cases hx⟩ ?_) ?_) ?_
 ·rintro i x ⟨s,c⟩ hx ⟨g1,g2,g3⟩
  have hi:i<ns.length:=(List.getElem?_eq_some_iff.1 hx).1
  have g2':c.length≤2 * i:=g2
  have hk:=(hns x (List.mem_of_getElem? hx)).key
  refine Kal (P:=fun r:Kxc×List Kxp=>At l a (b+2 * i+2) r.1∧r.2.length≤2 * i+2∧∀ f∈r.2,fcOk f) (Kan (Kaq (fun j r=>At l a (b+2 * i+j) r.1∧r.2.length≤2 * i+j∧∀ f∈r.2,fcOk f) ⟨g1.up (by omega) (by omega),by omega,g3⟩ ?_) ?_) fun r hr=>Kak ⟨hr.1.up (by omega) (by omega),by have:=hr.2.1;omega,hr.2.2⟩
  ·rintro j p ⟨s,c⟩ hp ⟨k1,k2,k3⟩
   have hj:j<2:=by have:=(List.getElem?_eq_some_iff.1 hp).1;simpa using this
   have k2':c.length≤2 * i+j:=k2
   have hpp:p∈factN:=memN (by decide) (List.mem_of_getElem? hp)
   refine Kal (Kax k1 3 hl h0 (by simp only at *;omega) (by decide) (by decide)) fun y hy=>?_
   refine Kao (fun _=>?_) fun _=>Kak ⟨hy.up (by omega) (by omega),Nat.le_succ_of_le k2',k3⟩
   refine Kav (by simp only[List.length_singleton];omega) (Kak ⟨hy.up (by omega) (by omega),by simp only[List.length_append,List.length_singleton];omega,fun w hw=>?_⟩)
   rcases List.mem_append.1 hw with hw | hw
   ·exact k3 w hw
   ·simp only[List.mem_singleton] at hw
    subst hw;exact⟨List.mem_cons_of_mem _ hk,hpp⟩
  ·rintro⟨s,c⟩ ⟨k1,k2,k3⟩
   exact⟨k1.up (by omega) (by simp),by simpa using k2,k3⟩
 ·rintro⟨s,c⟩ ⟨g1,g2,g3⟩
  exact⟨g1.up (by omega) (by omega),by have g2':c.length≤2 * ns.length:=g2;show c.length≤8;omega,g3⟩
 rintro⟨s1,fs⟩ ⟨k1,k2,k3⟩
 have k2':fs.length≤8:=k2
 refine Kal (Kax k1 20 hl h0 (by omega) (by decide) (by decide)) fun y hy=>?_
 refine Kal (P:=fun r:Kxc×List Kxp=>At l a (b+11) r.1∧r.2.length≤9∧∀ f∈r.2,fcOk f) ?_ fun r hr=>Kak ⟨hr.2,hr.1⟩
 refine Kao (fun _=>?_) fun _=>Kak ⟨hy.up (by omega) (by omega),Nat.le_succ_of_le k2',k3⟩
 refine Kal (Kaz hy _ hl (by omega) (by omega) (by simp) (by simp)) fun n hn=>?_
 refine Kal (Kaz hn.2 _ hl (by omega) (by omega) (by simp) (by simp)) fun p hp=>?_
 refine Kav (by simp only[List.length_singleton];omega) (Kak ⟨hp.2.up (by omega) (by omega),by simp only[List.length_append,List.length_singleton];omega,fun w hw=>?_⟩)
 rcases List.mem_append.1 hw with hw | hw
 ·exact k3 w hw
 ·simp only[List.mem_singleton] at hw
  subst hw
  exact⟨memN (by decide) hn.1,memN (by decide) hp.1⟩
end Go.Gk
namespace Go.Gk
abbrev TT{α:Type}:α→Prop:=fun _=>True
def strN:List Str:=[[110,97],[110,98],[110,99],[110,100],[98,111,120],[119,101,98],[97,110,110],[98,111,98],[99,105,100],[],[100,98],[102,114,101,115,104],[115,101,97,108,101,100],[65],[110,111,110,101]]
theorem Kvj:∀ x∈strN,Ok (Kyu x) TT:=by
 intro x hx
 simp only[strN,List.mem_cons,List.not_mem_nil,or_false] at hx
 rcases hx with rfl | rfl | rfl | rfl | rfl | rfl | rfl | rfl | rfl | rfl | rfl | rfl | rfl | rfl | rfl<;>exact⟨_,rfl,trivial⟩
theorem pf_n:∀ p∈routeN,Ok (Kyw 400 p) TT:=by
 intro p hp
 simp only[routeN,List.mem_cons,List.not_mem_nil,or_false] at hp
 rcases hp with rfl | rfl | rfl | rfl | rfl<;>exact⟨0,by decide +kernel,trivial⟩
theorem Kvk{σ ρ:Type}{m:Option (LS σ ρ)}{g:σ→Option ρ}{P:σ→Prop}{Q:ρ→Prop}(h:Ok m fun r=>match r with | .go s'=>P s' | .out q=>Q q)(k:∀ s,P s→Ok (g s) Q):Ok (bi m fun q=>goI q g) Q:=by
 obtain⟨r,rfl,hr⟩:=h
 cases r with
 | go s=>exact k s hr
 | out q=>exact⟨q,rfl,hr⟩
theorem Kvl{σ ρ:Type}{r:ρ}{P:σ→Prop}{Q:ρ→Prop}(h:Q r):Ok (bi (some r) fun v=>some (LS.out v:LS σ ρ)) fun r=>match r with | .go s'=>P s' | .out q=>Q q:=⟨_,rfl,h⟩
theorem Kvm{σ ρ:Type}{s:σ}{P:σ→Prop}{Q:ρ→Prop}(h:P s):Ok (some (LS.go s:LS σ ρ)) fun r=>match r with | .go s'=>P s' | .out q=>Q q:=⟨_,rfl,h⟩
theorem Kvn{α:Type}(l:List α)(i:Nat)(hi:i≤l.length):∃ z,subZ l 0 (i:Int)=some z:=by
 unfold subZ
 simp[hi]
theorem Kvo(s:List Kxf)(v:Kxf):Ok (Kyy s v) TT:=by
 unfold Kyy Kyx
 refine Kal (P:=TT) (Kvk (P:=TT) (Kas (fun _ _=>True) TT trivial fun i x s hx _=>?_) fun _ _=>Kak trivial) fun _ _=>Kak trivial
 exact Kao (fun _=>Kvl trivial) fun _=>Kvm trivial
theorem Kvp(n:Kxo)(h:nOk n)(last:Str)(had:List (Kxe×Bool)):Ok (Kyz 400 n last had) TT:=by
 unfold Kyz
 refine Kal (Kvj _ (memN (by decide) h.key)) fun y1 _=>?_
 refine Kal (P:=TT) (Kao (fun _=>Kak trivial) fun _=>Kal (Kvj _ (memN (by decide) h.name)) fun _ _=>Kak trivial) fun q _=>?_
 refine Kao (fun _=>Kak trivial) fun _=>Kao (fun _=>Kak trivial) fun _=>?_
 refine Kal (P:=TT) (Kao (fun _=>Kal (Kvj _ (memN (by decide) h.user)) fun _ _=>Kak trivial) fun _=>Kak trivial) fun q _=>?_
 refine Kao (fun _=>Kak trivial) fun _=>Kao (fun _=>Kak trivial) fun _=>?_
 refine Kvk (P:=TT) (Kas (fun _ _=>True) TT trivial fun i x s hx _=>?_) fun _ _=>?_
 ·have hxs:x∈strN:=by
   have h1:=h.tags
   have h2:=List.mem_of_getElem? hx
   simp only[tagN,List.mem_cons,List.not_mem_nil,or_false] at h1
   rcases h1 with e | e | e | e<;>rw[e] at h2<;>simp only[List.mem_cons,List.not_mem_nil,or_false] at h2
   ·subst h2;decide
   ·subst h2;decide
   rcases h2 with rfl | rfl<;>decide
  refine Kal (Kvj _ hxs) fun _ _=>Kao (fun _=>Kvl trivial) fun _=>?_
  refine Kal (P:=TT) (Kao (fun hp=>?_) fun _=>Kak trivial) fun _ _=>Kao (fun _=>Kvl trivial) fun _=>Kvm trivial
  have hp:=of_decide_eq_true hp
  have hi:i<n.Tags.length:=(List.getElem?_eq_some_iff.1 hx).1
  have htl:n.Tags.length≤2:=by
   have:=h.tags
   simp only[tagN,List.mem_cons,List.not_mem_nil,or_false] at this
   rcases this with e | e | e | e<;>rw[e]<;>simp
  exact Kvc (by rw[Ktq (by omega) (by omega)];omega) (by rw[Ktq (by omega) (by omega)];omega) fun _ _=>Kak trivial
 refine Kao (fun _=>Kak trivial) fun _=>Kao (fun _=>Kak trivial) fun _=>?_
 refine Kvk (P:=TT) (Kas (fun _ _=>True) TT trivial fun i x s hx _=>?_) fun _ _=>?_
 ·refine Kal (P:=TT) (by unfold Kyv;exact Kao (fun _=>Kak trivial) fun _=>Kak trivial) fun _ _=>?_
  exact Kao (fun _=>Kvl trivial) fun _=>Kao (fun _=>Kvl trivial) fun _=>Kvm trivial
 refine Kao (fun _=>Kak trivial) fun _=>?_
 refine Kvk (P:=TT) (Kas (fun _ _=>True) TT trivial fun i x s hx _=>?_) fun _ _=>Kak trivial
 refine Kal (pf_n _ (h.routes.2 x (List.mem_of_getElem? hx))) fun _ _=>Kao (fun _=>Kvl trivial) fun _=>?_
 obtain⟨z,hz⟩:=Kvn n.Routes i (Nat.le_of_lt (List.getElem?_eq_some_iff.1 hx).1)
 exact Kam hz (Kal (Kvo _ _) fun _ _=>Kao (fun _=>Kvl trivial) fun _=>Kvm trivial)
theorem Kvq(ns:List Kxo)(h:∀ n∈ns,nOk n):Ok (Kza 400 ns) TT:=by
 unfold Kza
 refine Kao (fun _=>Kak trivial) fun _=>Kvk (P:=TT) (Kas (fun _ _=>True) TT trivial fun i x s hx _=>?_) fun _ _=>Kak trivial
 exact Kal (Kvp x (h x (List.mem_of_getElem? hx)) _ _) fun _ _=>Kao (fun _=>Kvl trivial) fun _=>Kvm trivial
theorem Kvr(ns:List Kxo)(k:Str):Ok (Kzd ns k) TT:=by
 unfold Kzd Kzc
 refine Kal (P:=TT) ?_ fun _ _=>Kak trivial
 refine Kvk (P:=TT) (Kas (fun _ _=>True) TT trivial fun i x s hx _=>?_) fun _ _=>Kak trivial
 exact Kal (P:=TT) ⟨_,rfl,trivial⟩ fun _ _=>Kao (fun _=>Kvl trivial) fun _=>Kvm trivial
theorem Kvs(x y:Str):Ok (Kzf x y) TT:=by
 unfold Kzf Kze
 simp only[bi_some]
 repeat (first | exact Kak trivial | refine Kao (fun _=>?_) fun _=>?_)
theorem Kvt(a b:List Str):Ok (Kzg a b) TT:=by
 unfold Kzg
 refine Kvk (P:=TT) (Kas (fun _ _=>True) TT trivial fun i x s hx _=>?_) fun _ _=>Kao (fun _=>Kak trivial) fun _=>Kak trivial
 refine Kao (fun _=>Kvl trivial) fun g=>?_
 have g:=of_decide_eq_false g
 exact Kvc (by omega) (by omega) fun _ _=>Kal (Kvs _ _) fun _ _=>Kao (fun _=>Kvl trivial) fun _=>Kvm trivial
theorem Kvu(ns:List Kxo)(h:∀ n∈ns,nOk n)(fs:List Kxp)(hf:fs.length≤10)(hfs:∀ f∈fs,fcOk f):Ok (Kzh 400 ns fs) TT:=by
 unfold Kzh
 refine Kal (Kvq ns h) fun _ _=>Kao (fun _=>Kak trivial) fun _=>Kao (fun _=>Kak trivial) fun _=>?_
 refine Kvk (P:=TT) (Kas (fun _ _=>True) TT trivial fun i x s hx _=>?_) fun _ _=>Kak trivial
 have hi:i<fs.length:=(List.getElem?_eq_some_iff.1 hx).1
 refine Kal (Kvr _ _) fun _ _=>Kao (fun _=>Kvl trivial) fun _=>?_
 refine Kal (Kvj _ (memN (by decide) (hfs x (List.mem_of_getElem? hx)).2)) fun _ _=>Kao (fun _=>Kvl trivial) fun _=>?_
 refine Kal (P:=TT) (Kao (fun hp=>?_) fun _=>Kak trivial) fun _ _=>Kao (fun _=>Kvl trivial) fun _=>Kvm trivial
 have hp:=of_decide_eq_true hp
 have e0:(0:Int)≤wi ((i:Int) - 1):=by rw[Ktq (by omega) (by omega)];omega
 have e1:wi ((i:Int) - 1)<(fs.length:Int):=by rw[Ktq (by omega) (by omega)];omega
 exact Kvc e0 e1 fun _ _=>Kvc e0 e1 fun _ _=>Kal (Kvt _ _) fun _ _=>Kak trivial
structure ScOk(x:Kxq):Prop where
 ns:x.Nodes.length≤4∧∀ n∈x.Nodes,nOk n
 pol:PolOk x.Policy
 fs:x.Facts.length≤9∧∀ f∈x.Facts,fcOk f
theorem Kvv{l:List Int}{a b:Int}{s:Kxc}(h:At l a b s)(hl:l.length≤9223372036854775807)(h0:0≤a)(h1:b<4611686018427000000) :
  Ok (Kzi 400 s 4 4) fun r=>ScOk r.1∧At l a (b+400) r.2:=by
 unfold Kzi
 refine Kal (Kwx h hl h0 (by omega)) fun ns hns=>?_
 refine Kal (Lmw hns.2 hl h0 (by omega)) fun p hp=>?_
 refine Kal (Kwy ns.1 hns.1.1 hns.1.2 hp.2 hl h0 (by omega)) fun fs hfs=>?_
 refine Kal (P:=fun r:List Kxp=>r.length≤9∧∀ f∈r,fcOk f) ?_ fun r hr=>Kak ⟨⟨hns.1,hp.1,hr⟩,hfs.2.up (by omega) (by omega)⟩
 refine Kan (Kaq (fun i r=>r.length≤i∧∀ f∈r,fcOk f) ⟨by simp,fun f hf=>by cases hf⟩ ?_) fun r hr=>⟨by have:=hr.1;have:=hfs.1.1;omega,hr.2⟩
 rintro i x c hx ⟨g1,g2⟩
 have hi:i<fs.1.length:=(List.getElem?_eq_some_iff.1 hx).1
 have hb:=hfs.1.1
 have hx':=hfs.1.2 x (List.mem_of_getElem? hx)
 have hcl:Kyr c=some c:=by
  unfold Kyr
  rw[Ktw (by simp;omega)];rfl
 have hall:∀ f∈c++[x],fcOk f:=fun f hf=>by
  rcases List.mem_append.1 hf with hf | hf
  ·exact g2 f hf
  ·simp only[List.mem_singleton] at hf
   subst hf;exact hx'
 refine Kam hcl (Kav (by simp only[List.length_singleton];omega) (Kal (Kvu ns.1 hns.1.2 _ (by simp;omega) hall) fun _ _=>Kao (fun _=>Kak ⟨by simp;omega,hall⟩) fun _=>Kak ⟨Nat.le_succ_of_le g1,g2⟩))
end Go.Gk
namespace Go.Gk
theorem Lqv:∀ n:Nat,n≤200→wi (shrV .u64 (IntKind.u64.wrap (wi (n:Int))) 1)=((n / 2:Nat):Int):=by decide +kernel
theorem bs_n{α:Type}(x:List α)(c:α→Option Int)(hc:∀ a∈x,Ok (c a) TT)(hl:x.length≤100) :
  Ok (loopM (σ:=Int×Int) (ρ:=Int) (fun s2=>bif decide ((s2.1:Int)<s2.2) then(bi (getZ x (wi (shrV .u64 (IntKind.u64.wrap (wi (s2.1+s2.2))) 1))) fun x12=>bi (c x12) fun y14=>bif decide ((y14:Int)<0) then(some (.go (wi ((wi (shrV .u64 (IntKind.u64.wrap (wi (s2.1+s2.2))) 1))+1),s2.2))) else(some (.go (s2.1,wi (shrV .u64 (IntKind.u64.wrap (wi (s2.1+s2.2))) 1))))) else(some (.out s2.1))) 400 (0,(x.length:Int)))
   fun q=>∃ i:Nat,q=(i:Int)∧i≤x.length:=by
 refine Kat (fun s:Int×Int=>∃ a b:Nat,s=((a:Int),(b:Int))∧a≤b∧b≤x.length) (fun s=>(s.2 - s.1).toNat) _ ⟨0,x.length,rfl,Nat.zero_le _,Nat.le_refl _⟩ (by simp only;omega) fun s hs=>?_
 obtain⟨a,b,rfl,h1,h2⟩:=hs
 refine Kao (fun g=>?_) fun g=>Kak ⟨a,rfl,by omega⟩
 have g:(a:Int)<b:=of_decide_eq_true g
 have hm:wi (shrV .u64 (IntKind.u64.wrap (wi ((a:Int)+(b:Int)))) 1)=(((a+b) / 2:Nat):Int):=by
  have:=Lqv (a+b) (by omega)
  rw[Int.natCast_add] at this
  exact this
 have hlt:(a+b) / 2<x.length:=by omega
 simp only
 rw[hm]
 have hw:wi ((((a+b) / 2:Nat):Int)+1)=((((a+b) / 2)+1:Nat):Int):=by rw[Ktq (by omega) (by omega)];omega
 refine Kau (j:=(a+b) / 2) rfl (List.getElem?_eq_getElem hlt) (Kal (hc _ (List.getElem_mem _)) fun y _=>?_)
 refine Kao (fun _=>Kak ⟨⟨(a+b) / 2+1,b,by rw[hw],by omega,h2⟩,by simp only[hw];omega⟩) fun _=>Kak ⟨⟨a,(a+b) / 2,rfl,by omega,by omega⟩,by simp only;omega⟩
end Go.Gk
namespace Go.Gk
theorem Kvf:Ldy 400 (⟨false,0,1⟩:Kxe)=some ([48,46,48,46,48,46,49],0):=by decide +kernel
theorem Kvg:Leh 400 [0,1]=some 65534:=by rfl
theorem Kvh:∃ p,Leg 400 [97,108,108,111,119,32,42,32,45,62,32,42,10]=some (p,0,0)∧p.Grants.length=1:=⟨_,by rfl,by rfl⟩
theorem Kvi:Lei 400=some true:=by
 unfold Lei
 obtain⟨p,h1,h2⟩:=Kvh
 rw[Kvf,bi_some,h1,bi_some,Kvg,h2]
 rfl
end Go.Gk
namespace Go.Gk
theorem Kwq{A ρ:Type}{m:Option (A ⊕ ρ)}{g:A→Option ρ}{P:A→Prop}{Q:ρ→Prop}(h:Ok m fun r=>match r with | .inl a=>P a | .inr q=>Q q)(k:∀ a,P a→Ok (g a) Q):Ok (bi m fun q=>orI q g) Q:=by
 obtain⟨r,rfl,hr⟩:=h
 cases r with
 | inl a=>exact k a hr
 | inr q=>exact⟨q,rfl,hr⟩
theorem Kwr(s:Str)(hs:s.length≤100):Ok (Lae 400 s) TT:=by
 unfold Lae
 refine Kwq (P:=TT) (Kan (Kat (fun a:Int=>0≤a∧a≤s.length) (fun a=>((s.length:Int) - a).toNat) TT ⟨by omega,by omega⟩ (by omega) fun a ha=>?_) fun r _=>by cases r<;>trivial) fun _ _=>Kak trivial
 refine Kao (fun g=>?_) fun g=>Kak trivial
 have g:=of_decide_eq_true g
 have hw:wi (a+1)=a+1:=Ktq (by omega) (by omega)
 refine Kvc ha.1 g fun c _=>Kao (fun _=>⟨_,rfl,trivial⟩) fun _=>Kak ⟨⟨by rw[hw];omega,by rw[hw];omega⟩,by rw[hw];omega⟩
end Go.Gk
namespace Go.Gk
def cmpZ(x y:Int):Int:=bif decide (x<y) then -1 else bif decide (x>y) then 1 else 0
theorem Kuz(x y:Int):Lbo x y=some (cmpZ x y):=by
 unfold Lbo Lbn cmpZ
 simp only[bi_some,bne_self_eq_false,cond_false]
 cases decide (x<y)<;>cases decide (x>y)<;>rfl
def scZ(a b:Kxe):Int:=bif !((a.Six:Bool)==b.Six) then(bif b.Six then -1 else 1) else bif cmpZ a.Hi b.Hi != 0 then cmpZ a.Hi b.Hi else cmpZ a.Lo b.Lo
theorem Kva(a b:Kxe):Lbq a b=some (scZ a b):=by
 unfold Lbq scZ
 rw[Kuz,Kuz]
 simp only[bi_some]
 cases (!((a.Six:Bool)==b.Six))
 ·simp only[cond_false]
  unfold Lbp
  cases h:(cmpZ a.Hi b.Hi != 0)
  ·cases h2:(cmpZ a.Lo b.Lo != 0)
   ·have e:cmpZ a.Lo b.Lo=0:=by simpa using h2
    simp[rangeM,h,h2,e]
   simp[rangeM,h,h2]
  simp[rangeM,h]
 simp only[cond_true]
 cases b.Six<;>rfl
end Go.Gk
namespace Go.Gk
def sx(a:Kxe):Int:=bif a.Six then 1 else 0
theorem Kwz(x y:Int):cmpZ x y<0 ↔ x<y:=by
 unfold cmpZ
 by_cases h:x<y
 ·simp[h]
 by_cases h2:x>y<;>simp[h,h2]
theorem Kxa(x y:Int):cmpZ x y=0 ↔ x=y:=by
 unfold cmpZ
 by_cases h:x<y
 ·simp[h];omega
 by_cases h2:x>y
 ·simp[h,h2];omega
 simp[h,h2];omega
theorem Kxb(a b:Kxe):scZ a b<0 ↔ sx a<sx b∨(sx a=sx b∧(a.Hi<b.Hi∨(a.Hi=b.Hi∧a.Lo<b.Lo))):=by
 unfold scZ sx
 have e1:=Kwz a.Hi b.Hi
 have e2:=Kxa a.Hi b.Hi
 have e3:=Kwz a.Lo b.Lo
 cases a.Six<;>cases b.Six
 case false.true=>simp
 case true.false=>simp
 all_goals
  simp only[BEq.rfl,Bool.not_true,cond_false,cond_true,true_and,Int.lt_irrefl,false_or]
  cases h:(cmpZ a.Hi b.Hi != 0)
  ·have h:cmpZ a.Hi b.Hi=0:=by simpa using h
   have h:=e2.1 h
   simp only[cond_false]
   rw[e3]
   constructor
   ·intro g;exact .inr ⟨h,g⟩
   rintro(g | g)
   ·omega
   exact g.2
  have h:¬ cmpZ a.Hi b.Hi=0:=by simpa using h
  have h:¬ a.Hi=b.Hi:=fun e=>h (e2.2 e)
  simp only[cond_true]
  rw[e1]
  constructor
  ·intro g;exact .inl g
  rintro(g | g)
  ·exact g
  exact absurd g.1 h
end Go.Gk
