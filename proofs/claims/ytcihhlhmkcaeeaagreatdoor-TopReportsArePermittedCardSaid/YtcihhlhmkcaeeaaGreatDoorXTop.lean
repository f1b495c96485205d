import Derived.Test.YtcihhlhmkcaeeaaGreatDoorXSpan
import Derived.Test.YtcihhlhmkcaeeaaGreatDoorXDraw
set_option linter.all false
set_option maxRecDepth 100000
namespace Go.Gk
theorem Lml(a:List Kxt)(hl:a.length≤100)(x:Kxe):Ok (Ldo 400 a x) TT:=by
 unfold Ldo Ldn
 refine Kal (P:=fun r:Int×Bool=>∃ i:Nat,r.1=(i:Int)∧i≤a.length) (Kal (bs_n a (fun r=>Ldm r x) (fun r _=>by unfold Ldm;rw[Kva];exact ok_b ok_t fun _=>ok_t) hl) fun q hq=>?_) fun q hq=>?_
 ·obtain⟨i,rfl,hi⟩:=hq
  refine Kal (P:=TT) (Kao (fun g=>Kvc (by omega) (of_decide_eq_true g) fun y _=>?_) fun _=>ok_t) fun b _=>Kak ⟨i,rfl,hi⟩
  unfold Ldm
  rw[Kva]
  exact ok_b (ok_b ok_t fun _=>ok_t) fun _=>ok_t
 obtain⟨i,e,hi⟩:=hq
 refine ok_b (Lnm ok_t (Kao (fun g=>?_) fun _=>ok_t)) fun _=>ok_t
 have g:=of_decide_eq_true g
 have hg:∀ {β:Type} {f:Kxt→Option β},(∀ y,Ok (f y) TT)→Ok (bi (getZ a (wi (q.1 - 1))) f) TT:=fun k=>Kvc (by rw[Ktq (by omega) (by omega)];omega) (by rw[Ktq (by omega) (by omega)];omega) fun y _=>k y
 refine hg fun y=>Lnm (hg fun z=>?_) ok_t
 rw[Kva]
 exact ok_b ok_t fun _=>ok_t
variable{x:Kxq}{v:Kxu}
theorem Lmm(h:VOk x v)(a:Kxe):Ok (Ldq v a) TT:=by
 unfold Ldq
 cases hg:mGet v.owners a with
 | none=>exact ok_t
 | some j=>
  have:=Lqf x.Nodes _ (Nat.le_refl _) a j (by rw[←h.ow];exact hg)
  simp only[Option.isSome_some,Bool.not_true,cond_false,Option.getD_some]
  exact Kvc this.1 (by rw[h.s];exact this.2) fun _ _=>ok_t
theorem Lmn(hx:ScOk x)(h:VOk x v)(i:Nat)(hi:i<x.Policy.Grants.length)(f:Kxl):Ok (Lds 400 v (i:Int) f) TT:=by
 have eg:=List.getElem?_eq_getElem hi
 have es:=List.getElem?_eq_getElem (show i<v.src.length by rw[h.src.1];exact hi)
 have hdl:i<v.dst.length:=by rw[h.dst.1];exact hi
 have ed:=List.getElem?_eq_getElem hdl
 have hs:=h.src.2 _ (List.mem_of_getElem? es)
 have hd:=h.dst.2 i _ _ eg ed
 have hgk:=hx.pol.gr.2 _ (List.getElem_mem hi)
 have eg':getZ v.s.Policy.Grants (i:Int)=some x.Policy.Grants[i]:=by rw[h.s];exact Kue eg
 unfold Lds
 rw[eg',bi_some]
 refine ok_b (ok_b ⟨_,rfl,trivial⟩ fun _=>Lnm ok_t ?_) fun _=>Lnm ok_t (Lnk (Lnj fun k t s ht=>?_) fun _=>ok_t)
 ·rw[Kue es,bi_some]
  exact ok_b (Lml _ (by have:=hs.2;omega) _) fun _=>ok_t
 have hk:=(List.getElem?_eq_some_iff.1 ht).1
 refine ok_b ⟨_,rfl,trivial⟩ fun _=>ok_b (Lnm (ok_b ?_ fun _=>ok_t) ok_t) fun _=>Lnm ok_t ok_t
 unfold Ldr
 rw[eg',bi_some,Kue ht,bi_some,Kue ed,bi_some]
 have ek:=List.getElem?_eq_getElem (show k<v.dst[i].length by rw[hd.1];exact hk)
 have hk2:=hd.2 _ (List.mem_of_getElem? ek)
 rw[Kue ek,bi_some]
 exact Lnm (ok_b (Lml _ (by have:=hk2.2;omega) _) fun _=>ok_t) (ok_b (Lmm h _) fun _=>ok_b (Lnm (ok_b (Lmm h _) fun _=>ok_t) ok_t) fun _=>ok_t)
theorem Lmo(hx:ScOk x)(h:VOk x v)(f:Kxl):Ok (Ldt 400 v f) TT:=by
 unfold Ldt
 rw[h.s]
 have hgl:=hx.pol.gr.1
 refine Lnk (Kap (decide_eq_true (by omega)) ?_) fun _=>ok_t
 unfold rangeI
 refine Lnj fun i y s hy=>?_
 have hi:i<x.Policy.Grants.length:=by have:=(List.getElem?_eq_some_iff.1 hy).1;simpa using this
 exact ok_b (Lmn hx h i hi f) fun _=>Lnm ok_t ok_t
theorem Lmp(a b:Kxr):Ok (Lbs a b) TT:=by
 have ci:∀ u w:Int,Ok (Kzn u w) TT:=fun u w=>by
  unfold Kzn Kzm
  exact ok_b ok_t fun _=>ok_b ok_t fun _=>Lnm (Lnm ok_t ok_t) (Lnm ok_t (Lnm ok_t (Lnm ok_t ok_t)))
 have co:∀ l:List Int,Ok (Lbp l) TT:=fun l=>by
  unfold Lbp
  exact Lnk (Lnj fun i x s hx=>Lnm ok_t ok_t) fun _=>ok_t
 have cs:∀ u w:Kxe,Ok (Lbq u w) TT:=fun u w=>⟨_,Kva u w,trivial⟩
 unfold Lbs
 refine ok_b (ci _ _) fun _=>ok_b ⟨_,rfl,trivial⟩ fun _=>ok_b ?_ fun _=>ok_b ?_ fun _=>ok_b (co _) fun _=>ok_t
 ·unfold Lbm
  exact Lnm ok_t (Lnm ok_t ok_t)
 unfold Lbr
 exact ok_b (ci _ _) fun _=>ok_b (cs _ _) fun _=>ok_b (cs _ _) fun _=>ok_b (ci _ _) fun _=>ok_b (ci _ _) fun _=>ok_b (co _) fun _=>ok_t
theorem Lmq(l:List Kxr)(hl:l.length≤1000)(h:∀ r∈l,r.Node.length≤100):Ok (Lbt 400 l) fun e=>e=0→∀ r∈l,ffZ r.Flow=0:=by
 unfold Lbt
 refine Kao (fun _=>Kak fun e=>by cases e) fun _=>?_
 refine Kvk (P:=fun _=>∀ r∈l,ffZ r.Flow=0) (Kan (Kas (fun i _=>∀ r∈l.take i,ffZ r.Flow=0) (fun e:Int=>e≠0) (fun r hr=>by simp at hr) fun i x s hx hI=>?_) fun r hr=>?_) fun s hs=>Kak fun _=>hs
 ·refine Kal (Kwr _ (h x (List.mem_of_getElem? hx))) fun _ _=>Kao (fun _=>⟨_,rfl,(by decide:(5:Int)≠0)⟩) fun _=>Kal (P:=TT) ⟨_,rfl,trivial⟩ fun _ _=>Kao (fun _=>⟨_,rfl,(by decide:(1:Int)≠0)⟩) fun _=>?_
  rw[Kvx,bi_some]
  refine Kao (fun g=>⟨_,rfl,(by simpa using g:ffZ x.Flow≠0)⟩) fun g=>Kal (P:=TT) ⟨_,rfl,trivial⟩ fun _ _=>Kal (P:=TT) (Lnm ok_t (ok_b ⟨_,rfl,trivial⟩ fun _=>ok_t)) fun _ _=>Kao (fun _=>⟨_,rfl,(by decide:(1:Int)≠0)⟩) fun _=>?_
  refine Kal (P:=TT) (Kao (fun hp=>Lnn hx (by omega) hp fun y=>ok_b (Lmp _ _) fun _=>ok_t) fun _=>ok_t) fun _ _=>Kao (fun _=>⟨_,rfl,(by decide:(7:Int)≠0)⟩) fun _=>Kvm fun r hr=>?_
  rw[List.take_add_one,hx] at hr
  rcases List.mem_append.1 hr with hr | hr
  ·exact hI r hr
  have:r=x:=by simpa using hr
  rw[this];simpa using g
 cases r with
 | go s=>intro r hr';exact hr r (by simpa using hr')
 | out q=>exact fun e=>absurd e hr
end Go.Gk
namespace Go.Gk
theorem Lmx(a:Kxe):Ok (Kyg 400 a) TT:=by
 unfold Kyg
 refine ok_b (Kan (Kat (fun s:Int×Int×Int×Int×Int×Int×Int×Int×Int×Int=>∃ i:Nat,i≤4∧s.2.2.2.2.2.2.2.2.2=(i:Int)) (fun s=>(4 - s.2.2.2.2.2.2.2.2.2).toNat) TT ⟨0,by decide,rfl⟩ (by decide) fun s hs=>?_) fun _ _=>trivial) fun _=>ok_b (Lnm ok_t ok_t) fun _=>ok_t
 obtain⟨s0,s1,s2,s3,s4,s5,s6,s7,s8,k⟩:=s
 obtain⟨i,hi,e⟩:=hs
 simp only at e
 subst e
 rcases(show i=0∨i=1∨i=2∨i=3∨i=4 by omega) with rfl | rfl | rfl | rfl | rfl
 ·exact⟨_,rfl,⟨1,by decide,rfl⟩,(by decide:(4 - (1:Int)).toNat<(4 - (0:Int)).toNat)⟩
 ·exact⟨_,rfl,⟨2,by decide,rfl⟩,(by decide:(4 - (2:Int)).toNat<(4 - (1:Int)).toNat)⟩
 ·exact⟨_,rfl,⟨3,by decide,rfl⟩,(by decide:(4 - (3:Int)).toNat<(4 - (2:Int)).toNat)⟩
 ·exact⟨_,rfl,⟨4,by decide,rfl⟩,(by decide:(4 - (4:Int)).toNat<(4 - (3:Int)).toNat)⟩
 exact⟨_,rfl,trivial⟩
theorem Lmy(n:Int):Ok (Kzj n) TT:=by
 unfold Kzj
 exact Lnm ok_t (Lnm ok_t ok_t)
theorem Lmz(w v:Int×Int×Int×Int×Int×Int×Int×Int×Int):Ok (Kzk 400 w v) TT:=by
 unfold Kzk
 refine Lnl (Kan (Kat (fun s:Int=>-1≤s∧s≤8) (fun s=>(s+1).toNat) TT (by decide) (by decide) fun s hs=>?_) fun _ _=>trivial) fun _=>ok_t
 refine Kao (fun g=>?_) fun _=>⟨_,rfl,trivial⟩
 have g:=of_decide_eq_true g
 have gz:∀ {γ:Type} {Q:γ→Prop} (l:List Int) (hl:l.length=9) {f:Int→Option γ},(∀ y,Ok (f y) Q)→Ok (bi (getZ l s) f) Q:=@fun γ Q l hl f k=>Kvc g (by omega) fun y _=>k y
 refine gz _ rfl fun y=>gz _ rfl fun z=>Kao (fun _=>gz _ rfl fun u=>gz _ rfl fun t=>Kal (Lmy _) fun c _=>⟨_,rfl,trivial⟩) fun _=>Kak ?_
 have hw:wi (s - 1)=s - 1:=Ktq (by omega) (by omega)
 rw[hw]
 exact⟨⟨by omega,by omega⟩,by omega⟩
theorem Lna(a b:List Int):Ok (Kzo a b) TT:=by
 have ci:∀ u w:Int,Ok (Kzn u w) TT:=fun u w=>by
  unfold Kzn Kzm
  exact ok_b ok_t fun _=>ok_b ok_t fun _=>Lnm (Lnm ok_t ok_t) (Lnm ok_t (Lnm ok_t (Lnm ok_t ok_t)))
 unfold Kzo
 refine Lnk (Lnj fun i x s hx=>Kao (fun _=>ok_t) fun g=>?_) fun _=>Lnm ok_t ok_t
 have g:=of_decide_eq_false g
 exact Kvc (by omega) (by omega) fun _ _=>ok_b (ci _ _) fun _=>Lnm ok_t ok_t
theorem ro_n(a b:Kxr):Ok (Kzq 400 a b) TT:=by
 have hord:∀ u w:Kxe,Ok (Kzl 400 u w) TT:=fun u w=>by
  unfold Kzl
  exact ok_b (Lmx _) fun _=>ok_b (Lmx _) fun _=>ok_b (Lmz _ _) fun _=>ok_t
 unfold Kzq
 refine Lnm (ok_b (Lmy _) fun _=>ok_t) (Lnm (ok_b ⟨_,rfl,trivial⟩ fun _=>ok_t) (Lnm ok_t (Lnm ok_t (ok_b ?_ fun _=>ok_t))))
 unfold Kzp
 exact Lnm (ok_b (Lmy _) fun _=>ok_t) (Lnm (ok_b (hord _ _) fun _=>ok_t) (Lnm (ok_b (hord _ _) fun _=>ok_t) (ok_b (Lna _ _) fun _=>ok_t)))
def KinR(data r:List Kxr):Prop:=r.length=data.length∧∀ x∈r,x∈data
theorem KinR.set{data r:List Kxr}(h:KinR data r){i:Nat}{x:Kxr}(hx:x∈data):KinR data (r.set i x):=
 ⟨by rw[List.length_set];exact h.1,fun y hy=>by
  rcases List.mem_or_eq_of_mem_set hy with h1 | rfl
  ·exact h.2 y h1
  exact hx⟩
theorem Lnb(data:List Kxr)(hl:data.length≤300):Ok (Kzr 400 data 0 (data.length:Int)) (KinR data):=by
 unfold Kzr
 refine Kal (P:=KinR data) (Kat (fun s:(List Kxr)×Int=>KinR data s.1∧1≤s.2) (fun s=>((data.length:Int) - s.2).toNat) (KinR data) ⟨⟨rfl,fun x h=>h⟩,Int.le_refl 1⟩ (by
  show((data.length:Int) - wi (0+1)).toNat<400
  have:wi (0+1)=1:=rfl
  omega) fun s hI=>?_) fun r hr=>Kak hr
 refine Kao (fun h=>?_) fun _=>Kak hI.1
 have hlt:=of_decide_eq_true h
 have h1:=hI.2
 have hw:wi (s.2+1)=s.2+1:=Ktq (by omega) (by omega)
 refine Kal (P:=KinR data) (Kat (fun s:(List Kxr)×Int=>KinR data s.1∧0≤s.2∧s.2<(data.length:Int)) (fun s=>s.2.toNat) (KinR data) ⟨hI.1,by simp only;omega,hlt⟩ (by simp only;omega) fun s13 hI=>?_) fun r hr=>Kak ⟨⟨hr,by simp only[hw];omega⟩,by simp only[hw];omega⟩
 obtain⟨g1,g2,g3⟩:=hI
 have hj:s13.2.toNat<s13.1.length:=by rw[g1.1];omega
 by_cases h0:s13.2>0
 ·have hw:wi (s13.2 - 1)=((s13.2.toNat - 1:Nat):Int):=by rw[Ktq (by omega) (by omega)];omega
  have e1:getZ s13.1 s13.2=some (s13.1[s13.2.toNat]):=Kuf (j:=s13.2.toNat) (by omega) (List.getElem?_eq_getElem hj)
  have e2:getZ s13.1 (wi (s13.2 - 1))=some (s13.1[s13.2.toNat - 1]'(by omega)):=Kuf (j:=s13.2.toNat - 1) hw (List.getElem?_eq_getElem (by omega))
  rw[decide_eq_true h0,cond_true,e1,e2]
  obtain⟨c,hc,_⟩:=ro_n (s13.1[s13.2.toNat]) (s13.1[s13.2.toNat - 1]'(by omega))
  refine Kam (r:=decide (c<0)) (by rw[bi_some,bi_some,hc];rfl) ?_
  refine Kao (fun _=>?_) fun _=>Kak g1
  simp only[bi_some]
  refine Kau (j:=s13.2.toNat - 1) (x:=s13.1[s13.2.toNat - 1]'(by omega)) (by rw[hw,Int.toNat_natCast]) (by rw[List.getElem?_set_ne (by omega)];exact List.getElem?_eq_getElem _) (Kak ⟨⟨?_,?_,?_⟩,?_⟩)
  ·exact(g1.set (g1.2 _ (List.getElem_mem _))).set (g1.2 _ (List.getElem_mem _))
  ·rw[hw];omega
  ·rw[hw];omega
  simp only[hw];omega
 rw[decide_eq_false h0,cond_false,bi_some,cond_false]
 exact Kak g1
theorem Lnc(x:List Kxr)(h:x.length≤19):Ok (Kzw 400 x) (KinR x):=by
 unfold Kzw
 refine Kal (P:=KinR x) ?_ fun r hr=>Kak hr
 obtain⟨r,h1,h2⟩:=Lnb x (by omega)
 unfold Kzv
 refine Kam (r:=(x,0)) ?_ ?_
 ·refine Kaj _ ?_
  rw[decide_eq_false (show ¬ (20:Int)≤x.length by omega)]
  rfl
 simp only
 refine Kam h1 (Kap (decide_eq_true h2.1) (Kam (r:=r) ?_ (Kak h2)))
 refine Kaj _ ?_
 rw[decide_eq_false (show ¬ (20:Int)<x.length by omega)]
 rfl
theorem Lnd(s:List Kxr)(hl:s.length≤100):Ok (Kzy 400 s) fun r=>r.length≤s.length∧∀ x∈r,x∈s:=by
 have eqn:∀ a b,Ok (Kzx 400 a b) TT:=fun a b=>by unfold Kzx;exact ok_b (ro_n a b) fun _=>ok_t
 unfold Kzy
 refine Kao (fun _=>Kak ⟨Nat.le_refl _,fun x h=>h⟩) fun g=>?_
 have g:=of_decide_eq_false g
 refine Kwq (P:=TT) (Kan (Kat (fun i:Int=>1≤i∧i≤s.length) (fun i=>(s.length - i.toNat)) (fun r:Unit ⊕ List Kxr=>match r with | .inl _=>True | .inr r=>r.length≤s.length∧∀ x∈r,x∈s) ⟨by omega,by omega⟩ (by simp;omega) fun i hi=>?_) fun r hr=>by cases r<;>first | trivial | exact hr) fun _ _=>Kak ⟨Nat.le_refl _,fun x h=>h⟩
 refine Kao (fun g2=>?_) fun _=>⟨_,rfl,trivial⟩
 have g2:=of_decide_eq_true g2
 obtain⟨i,rfl⟩:=Int.eq_ofNat_of_zero_le (show 0≤i by omega)
 have w1:wi ((i:Int) - 1)=((i - 1:Nat):Int):=by rw[Ktq (by omega) (by omega)];omega
 have w2:wi ((i:Int)+1)=((i+1:Nat):Int):=by rw[Ktq (by omega) (by omega)];omega
 refine Kvc (by omega) g2 fun u _=>Kvc (by omega) (by omega) fun t _=>Kal (eqn _ _) fun b _=>Kao (fun _=>?_) fun _=>Kak ⟨⟨by omega,by omega⟩,by rw[w2];simp;omega⟩
 have hz:subZ s (i:Int) (s.length:Int)=some (s.drop i):=by
  rw[Kud (by omega) (Nat.le_refl _)]
  simp
 refine Kam hz ?_
 refine Kal (P:=fun r:List Kxr×Int=>r.1.length=s.length∧(∀ x∈r.1,x∈s)∧0≤r.2∧r.2≤s.length) (Kat (fun t:List Kxr×Int×Int=>t.1.length=s.length∧(∀ x∈t.1,x∈s)∧1≤t.2.2∧(i:Int)+t.2.2≤s.length∧0≤t.2.1∧t.2.1≤(i:Int)+t.2.2 - 1) (fun t=>s.length - (i+t.2.2.toNat)) _ ⟨rfl,fun x h=>h,by simp,by simp;omega,by simp,by simp⟩ (by simp;omega) fun t ht=>?_) fun r hr=>?_
 ·obtain⟨cur,w,q⟩:=t
  obtain⟨i1,i2,i3,i4,i5,i6⟩:=ht
  simp only at i1 i2 i3 i4 i5 i6 ⊢
  have hdl:(s.drop i).length=s.length - i:=by simp
  refine Kao (fun gq=>?_) fun _=>Kak ⟨i1,i2,i5,by omega⟩
  have gq:=of_decide_eq_true gq
  rw[hdl] at gq
  obtain⟨q,rfl⟩:=Int.eq_ofNat_of_zero_le (show 0≤q by omega)
  obtain⟨w,rfl⟩:=Int.eq_ofNat_of_zero_le i5
  have v1:wi ((q:Int) - 1)=((q - 1:Nat):Int):=by rw[Ktq (by omega) (by omega)];omega
  have v2:wi ((q:Int)+1)=((q+1:Nat):Int):=by rw[Ktq (by omega) (by omega)];omega
  have v3:wi ((w:Int)+1)=((w+1:Nat):Int):=by rw[Ktq (by omega) (by omega)];omega
  simp only[v1,v2,v3,Int.toNat_natCast]
  refine Kvc (by omega) (by omega) fun _ _=>Kvc (by omega) (by omega) fun _ _=>Kvc (by omega) (by omega) fun _ _=>Kvc (by omega) (by omega) fun _ _=>Kal (eqn _ _) fun b _=>Kao (fun _=>?_) fun _=>Kak ⟨⟨i1,i2,(by(try simp only)<;>omega),(by(try simp only)<;>omega),(by(try simp only)<;>omega),(by(try simp only)<;>omega)⟩,by simp;omega⟩
  refine Kvc (by omega) (by omega) fun _ _=>Kvc (by omega) (by omega) fun y hy=>Kvc (by omega) (by omega) fun _ _=>Kak ⟨⟨by simpa using i1,fun x hx=>?_,(by(try simp only)<;>omega),(by(try simp only)<;>omega),(by(try simp only)<;>omega),(by(try simp only)<;>omega)⟩,by simp;omega⟩
  rcases List.mem_or_eq_of_mem_set hx with h1 | rfl
  ·exact i2 x h1
  exact i2 x (List.mem_of_getElem? hy)
 obtain⟨cur,w⟩:=r
 obtain⟨r1,r2,r3,r4⟩:=hr
 simp only at r1 r2 r3 r4 ⊢
 obtain⟨w,rfl⟩:=Int.eq_ofNat_of_zero_le r3
 have e:=Kud (l:=cur) (i:=w) (j:=cur.length) (by omega) (by omega)
 refine Kam e ⟨_,rfl,?_,fun x hx=>r2 x (List.mem_of_mem_take hx)⟩
 simp;omega
theorem Lne{l:List Int}{a b:Int}{s:Kxc}(h:At l a b s)(lo hi:Int)(hl:l.length≤9223372036854775807)(h0:0≤a)(h1:b<4611686018427387904)(h2:lo≤hi)(h3:0≤lo)(h4:hi≤1000000000000) :
  Ok (Kyf s lo hi) fun r=>At l (a+1) (b+1) r.2:=by
 unfold Kyf
 refine Kao (fun g=>absurd (of_decide_eq_true g) (by omega)) fun _=>?_
 have w1:wi (hi - lo)=hi - lo:=Ktq (by omega) (by omega)
 have w2:wi (hi - lo+1)=hi - lo+1:=Ktq (by omega) (by omega)
 rw[w1,w2]
 exact Kal (Kvb h _ hl h0 h1 (by omega) (by omega)) fun y hy=>Kak hy.2.2
theorem Lnf{l:List Int}{a b:Int}{s:Kxc}(h:At l a b s)(lo hi:Int)(hl:l.length≤9223372036854775807)(h0:0≤a)(h1:b<4611686018427380000)(h2:lo≤hi)(h3:0≤lo)(h4:hi≤1000000000000) :
  Ok (Kzz s lo hi) fun r=>At l a (b+2) r.2:=by
 unfold Kzz
 refine Kal (Kax h 12 hl h0 (by omega) (by decide) (by decide)) fun y hy=>Kao (fun _=>?_) fun _=>?_
 ·exact Kal (Kay hy _ hl (by omega) (by omega) (by simp) (by simp)) fun z hz=>Kak (hz.2.up (by omega) (by omega))
 ·exact Kal (Lne hy lo hi hl (by omega) (by omega) h2 h3 h4) fun z hz=>Kak (hz.up (by omega) (by omega))
theorem Lng{l:List Int}{a b:Int}{s:Kxc}(h:At l a b s)(hl:l.length≤9223372036854775807)(h0:0≤a)(h1:b<4611686018427380000) :
  Ok (Lab s) fun r=>At l a (b+6) r.2:=by
 have gz:∀ {γ:Type} {Q:γ→Prop} (xs:List Int) (i:Int) {f:Int→Option γ},0≤i→i<xs.length→(∀ y,Ok (f y) Q)→Ok (bi (getZ xs i) f) Q:=@fun γ Q xs i f h0 h1 k=>Kvc h0 h1 fun y _=>k y
 have had:Ok (Laa s) fun r=>At l a (b+3) r.2:=by
  unfold Laa
  refine Kal (Kvb h 6 hl h0 (by omega) (by decide) (by decide)) fun y hy=>?_
  refine Kao (fun _=>?_) fun _=>Kao (fun _=>?_) fun _=>Kao (fun _=>?_) fun _=>?_
  ·refine Kal (Kvb hy.2.2 5 hl (by omega) (by omega) (by decide) (by decide)) fun z hz=>gz _ _ hz.1 (by simpa using hz.2.1) fun _=>?_
   refine Kal (Kvb hz.2.2 5 hl (by omega) (by omega) (by decide) (by decide)) fun u hu=>gz _ _ hu.1 (by simpa using hu.2.1) fun _=>Kak (hu.2.2.up (by omega) (by omega))
  ·refine Kal (Kvb hy.2.2 5 hl (by omega) (by omega) (by decide) (by decide)) fun z hz=>gz _ _ hz.1 (by simpa using hz.2.1) fun _=>Kak (hz.2.2.up (by omega) (by omega))
  ·refine Kal (Lne hy.2.2 0 16777216 hl (by omega) (by omega) (by decide) (by decide) (by decide)) fun z hz=>Kal (P:=TT) ⟨_,rfl,trivial⟩ fun _ _=>Kak (hz.up (by omega) (by omega))
  ·exact Kal (Lne hy.2.2 0 20 hl (by omega) (by omega) (by decide) (by decide) (by decide)) fun z hz=>Kak (hz.up (by omega) (by omega))
 unfold Lab
 refine Kal had fun y hy=>Kal (Kax hy 15 hl h0 (by omega) (by decide) (by decide)) fun z hz=>Kao (fun _=>?_) fun _=>Kak (hz.up (by omega) (by omega))
 refine Kal (Kvb hz 2 hl (by omega) (by omega) (by decide) (by decide)) fun u hu=>Kal (Kvb hu.2.2 3 hl (by omega) (by omega) (by decide) (by decide)) fun t ht=>gz _ _ ht.1 (by simpa using ht.2.1) fun _=>Kak (ht.2.2.up (by omega) (by omega))
theorem Lnh{l:List Int}{a b:Int}{s:Kxc}(h:At l a b s)(hl:l.length≤9223372036854775807)(h0:0≤a)(h1:b<4611686018427300000) :
  Ok (Lac s) fun r=>At l a (b+30) r.2:=by
 unfold Lac
 refine Kal (Lmv h hl h0 h1) fun f hf=>Kal (Kax hf.2 15 hl h0 (by omega) (by decide) (by decide)) fun y hy=>?_
 refine Kal (P:=fun r:Kxc×Kxl=>At l a (b+30) r.1) ?_ fun r hr=>Kak hr
 refine Kao (fun _=>?_) fun _=>Kak (hy.up (by omega) (by omega))
 refine Kal (Kvb hy 4 hl (by omega) (by omega) (by decide) (by decide)) fun z hz=>?_
 refine Kao (fun _=>?_) fun _=>Kao (fun _=>?_) fun _=>Kao (fun _=>?_) fun _=>?_
 ·exact Kal (Lnf hz.2.2 1 255 hl (by omega) (by omega) (by decide) (by decide) (by decide)) fun u hu=>Kak (hu.up (by omega) (by omega))
 ·exact Kal (Lng hz.2.2 hl (by omega) (by omega)) fun u hu=>Kak (hu.up (by omega) (by omega))
 ·exact Kal (Lnf hz.2.2 0 65535 hl (by omega) (by omega) (by decide) (by decide) (by decide)) fun u hu=>Kak (hu.up (by omega) (by omega))
 ·exact Kal (Lnf hz.2.2 0 65535 hl (by omega) (by omega) (by decide) (by decide) (by decide)) fun u hu=>Kak (hu.up (by omega) (by omega))
def nodOk(r:Kxr):Prop:=r.Node.length≤100
theorem nd_o{γ:Type}(x:Kxe)(d:Str)(hd:d.length≤100){f:Str→Option γ}{Q:γ→Prop}(k:∀ y:Str,y.length≤100→Ok (f y) Q) :
  Ok (bi (bif ((decide ((IntKind.u64.wrap (x.Lo - 1681915904):Int)≥1))&&(decide ((IntKind.u64.wrap (x.Lo - 1681915904):Int)≤4))) then(bi (getZ [[],[110,97],[110,98],[110,99],[110,100]] (IntKind.u64.wrap (x.Lo - 1681915904))) fun x59=>some x59) else(some d)) f) Q:=by
 refine Kal (P:=fun y:Str=>y.length≤100) (Kao (fun g=>?_) fun _=>Kak hd) k
 rw[Bool.and_eq_true] at g
 have g1:=of_decide_eq_true g.1
 have g2:=of_decide_eq_true g.2
 refine Kvc (by omega) (by simp only[List.length_cons,List.length_nil];omega) fun y hy=>Kak ?_
 exact Lod (T:=[[],[110,97],[110,98],[110,99],[110,100]]) (by decide) (List.mem_of_getElem? hy)
theorem Lni{l:List Int}{a b:Int}{s:Kxc}(many:Int)(hm0:0≤many)(hm:many≤8)(h:At l a b s)(hl:l.length≤9223372036854775807)(h0:0≤a)(h1:b<4611686018427200000) :
  Ok (Lad 400 s many) fun r=>r.1.length≤100∧∀ y∈r.1,nodOk y:=by
 unfold Lad
 refine Kal (P:=fun r:Kxc×List Kxr=>At l a (b+160) r.1∧r.2.length≤16∧∀ y∈r.2,nodOk y) (Kap (decide_eq_true (by omega)) (Kan (Kar (fun i r=>At l a (b+20 * i) r.1∧r.2.length≤2 * i∧∀ y∈r.2,nodOk y) ⟨h.up (by omega) (by omega),by simp,fun y hy=>by cases hy⟩ ?_) ?_)) ?_
 ·rintro i ⟨s,c⟩ hi ⟨g1,g2,g3⟩
  have hi:i<8:=by omega
  simp only at g1 g2 g3 ⊢
  refine Kal (Kay g1 _ hl h0 (by omega) (by simp) (by simp)) fun y13 k13=>?_
  refine Kal (Lne k13.2 1 4 hl (by omega) (by omega) (by decide) (by decide) (by decide)) fun y15 k15=>?_
  obtain⟨y17,e17,_⟩:=at_o y15.1
  refine Kam e17 (Kal (Lne k15 1 4 hl (by omega) (by omega) (by decide) (by decide) (by decide)) fun y19 k19=>?_)
  obtain⟨y21,e21,_⟩:=at_o y19.1
  refine Kam e21 (Kal (Kax k19 6 hl (by omega) (by omega) (by decide) (by decide)) fun y23 k23=>?_)
  refine Kal (P:=fun r:Kxc×Kxl=>At l a (b+20 * i+5) r.1) (Kao (fun _=>Kal (Lne k23 0 3 hl (by omega) (by omega) (by decide) (by decide) (by decide)) fun y k=>Kak (k.up (by omega) (by omega))) fun _=>Kak (k23.up (by omega) (by omega))) fun q25 k25=>?_
  refine Kal (P:=fun r:Kxc×Kxl=>At l a (b+20 * i+7) r.1) (Kao (fun _=>Kal (Kay k25 _ hl (by omega) (by omega) (by simp) (by simp)) fun y k=>Kal (Kay k.2 _ hl (by omega) (by omega) (by simp) (by simp)) fun y2 k2=>Kak (k2.2.up (by omega) (by omega))) fun _=>Kak (k25.up (by omega) (by omega))) fun q31 k31=>?_
  refine Kal (Kaz k31 _ hl (by omega) (by omega) (by simp) (by simp)) fun y39 k39=>?_
  have h39:y39.1.length≤100:=Lod (by decide) k39.1
  refine Kal (Kay k39.2 _ hl (by omega) (by omega) (by simp) (by simp)) fun y41 k41=>?_
  refine Kal (Kax k41.2 2 hl (by omega) (by omega) (by decide) (by decide)) fun y43 k43=>?_
  refine Kal (Kay k43 _ hl (by omega) (by omega) (by simp) (by simp)) fun y45 k45=>?_
  refine Kal (Kay k45.2 _ hl (by omega) (by omega) (by simp) (by simp)) fun y47 k47=>?_
  refine Kal (Kax k47.2 5 hl (by omega) (by omega) (by decide) (by decide)) fun y49 k49=>?_
  refine Kal (P:=fun y:Str=>y.length≤100) (Kao (fun _=>Kal (P:=TT) (Lnm ok_t ok_t) fun x _=>?_) fun _=>Kak h39) fun q51 h51=>?_
  ·have:=nd_o (γ:=Str) x y39.1 h39 (f:=some) (Q:=fun y=>y.length≤100) fun y hy=>Kak hy
   rwa [show ∀ m:Option Str,bi m some=m from fun m=>by cases m<;>rfl] at this
  refine Kav (by simp;omega) ?_
  have c1:∀ y∈c++[(⟨q51,y41.1,y43.1,q31.2,y45.1,y47.1⟩:Kxr)],nodOk y:=fun y hy=>by
   rcases List.mem_append.1 hy with hy | hy
   ·exact g3 y hy
   ·rw[List.mem_singleton.1 hy];exact h51
  refine Kal (Kax k49 2 hl (by omega) (by omega) (by decide) (by decide)) fun y65 k65=>Kao (fun _=>?_) fun _=>Kak ⟨k65.up (by omega) (by omega),by simp;omega,c1⟩
  refine Kal (P:=TT) (Lnm ok_t ok_t) fun x _=>nd_o x q51 h51 fun q72 h72=>?_
  refine Kal (Kay k65 _ hl (by omega) (by omega) (by simp) (by simp)) fun y78 k78=>?_
  refine Kal (Kay k78.2 _ hl (by omega) (by omega) (by simp) (by simp)) fun y80 k80=>?_
  refine Kav (by simp;omega) (Kak ⟨k80.2.up (by omega) (by omega),by simp;omega,fun y hy=>?_⟩)
  rcases List.mem_append.1 hy with hy | hy
  ·exact c1 y hy
  ·rw[List.mem_singleton.1 hy];exact h72
 ·rintro⟨s,c⟩ ⟨g1,g2,g3⟩
  exact⟨g1.up (by omega) (by omega),by simp only at g2 ⊢;omega,g3⟩
 rintro⟨s4,c⟩ ⟨k1,k2,k3⟩
 simp only at k1 k2 k3 ⊢
 refine Kal (Lnc c (by omega)) fun y hy=>Kap (decide_eq_true hy.1) (Kal (Lnd y (by have:=hy.1;omega)) fun z hz=>?_)
 have hzl:z.length≤16:=by have:=hy.1;have:=hz.1;omega
 have hzn:∀ u∈z,nodOk u:=fun u hu=>k3 u (hy.2 u (hz.2 u hu))
 refine Kal (P:=fun r:Kxc×Bool=>At l a (b+161) r.1∧(r.2=true→0<z.length)) (Kao (fun g=>Kal (Kax k1 15 hl h0 (by omega) (by decide) (by decide)) fun w hw=>Kak ⟨hw.up (by omega) (by omega),fun _=>by have:=of_decide_eq_true g;omega⟩) fun _=>Kak ⟨k1.up (by omega) (by omega),fun e=>by cases e⟩) fun q hq=>?_
 refine Kal (P:=fun r:Kxc×List Kxr=>r.2.length≤100∧∀ y∈r.2,nodOk y) (Kao (fun g=>?_) fun _=>Kak ⟨by show z.length≤100;omega,hzn⟩) fun r hr=>Kak hr
 have hzp:=hq.2 g
 refine Kal (Kvb hq.1 _ hl h0 (by omega) (by omega) (by omega)) fun y100 k100=>Kvc k100.1 k100.2.1 fun x hx=>?_
 have hx':=hzn x (List.mem_of_getElem? hx)
 have hset:∀ y:Kxr,nodOk y→(z.set y100.1.toNat y).length≤100∧∀ u∈z.set y100.1.toNat y,nodOk u:=fun y hy=>⟨by rw[List.length_set];omega,fun u hu=>by
  rcases List.mem_or_eq_of_mem_set hu with h1 | rfl
  ·exact hzn u h1
  ·exact hy⟩
 refine Kal (Kvb k100.2.2 5 hl (by omega) (by omega) (by decide) (by decide)) fun y105 k105=>?_
 refine Kao (fun _=>?_) fun _=>Kao (fun _=>?_) fun _=>Kao (fun _=>?_) fun _=>Kao (fun _=>?_) fun _=>?_
 ·exact Kal (Kaz k105.2.2 _ hl (by omega) (by omega) (by simp) (by simp)) fun u hu=>Kak (hset _ (Lod (by decide) hu.1))
 ·exact Kal (Lnf k105.2.2 0 96023 hl (by omega) (by omega) (by decide) (by decide) (by decide)) fun u hu=>Kak (hset _ hx')
 ·exact Kal (Lnh k105.2.2 hl (by omega) (by omega)) fun u hu=>Kak (hset _ hx')
 ·exact Kal (Lnf k105.2.2 1 1000000000000 hl (by omega) (by omega) (by decide) (by decide) (by decide)) fun u hu=>Kak (hset _ hx')
 ·exact Kal (Lnf k105.2.2 0 1000000000000 hl (by omega) (by omega) (by decide) (by decide) (by decide)) fun u hu=>Kak (hset _ hx')
end Go.Gk
namespace Go.Gk
theorem Lpt(s:List Int)(v:Int):Leo s v=some (decide (v∈s)):=by
 have key:∀ (l:List Int) (i:Nat),(v∈l∧∃ j:Nat,rangeM (σ:=Unit) (ρ:=Int) (fun i1 x3 s2=>bif (v:Int)==x3 then(bi (some (i1:Int)) fun v=>some (.out v)) else(some (.go ()))) i l ()=some (.out (j:Int)))∨(v ∉ l∧rangeM (σ:=Unit) (ρ:=Int) (fun i1 x3 s2=>bif (v:Int)==x3 then(bi (some (i1:Int)) fun v=>some (.out v)) else(some (.go ()))) i l ()=some (.go ())):=by
  intro l
  induction l with
  | nil=>intro i;exact .inr ⟨by simp,rfl⟩
  | cons x l ih=>
   intro i
   cases h:((v:Int)==x)
   ·have hne:v≠x:=by simpa using h
    rcases ih (i+1) with⟨h1,j,h2⟩ | ⟨h1,h2⟩
    ·exact .inl ⟨List.mem_cons_of_mem _ h1,j,by simp only[rangeM,h,cond_false,h2]⟩
    exact .inr ⟨by simp[hne,h1],by simp only[rangeM,h,cond_false,h2]⟩
   have he:v=x:=by simpa using h
   exact .inl ⟨by simp[he],i,by simp only[rangeM,h,cond_true,bi_some]⟩
 unfold Leo Len
 rcases key s 0 with⟨h1,j,h2⟩ | ⟨h1,h2⟩
 ·rw[h2,decide_eq_true h1]
  simp only[bi_some,goI]
  rw[decide_eq_true (show(j:Int)≥0 by omega)]
 rw[h2,decide_eq_false h1]
 rfl
section
variable{x:Kxq}{v:Kxu}
def pmt(v:Kxu)(f:Kxl):Bool:=(Ldt 400 v f).getD false
theorem Lpu(hx:ScOk x)(h:VOk x v)(f:Kxl):Ldt 400 v f=some (pmt v f):=by
 obtain⟨b,e,_⟩:=Lmo hx h f
 unfold pmt
 rw[e];rfl
def keyA(x:Kxq)(a:Kxe):Str:=(mGet (ownK x.Nodes x.Nodes.length) a).getD []
def cnd(x:Kxq)(v:Kxu)(y:Kxr):Bool:=!y.Out&&(((keyA x y.Flow.To:Str)==y.Node)&&(!pmt v y.Flow&&!pmt v (bkF y.Flow)))
theorem Lpv(hx:ScOk x)(h:VOk x v)(hn:∀ al,∃ al',Ldj 400 x al=some (v,al'))(hc:Lbl 400 x=some 0)(f:Kxl)(hf:ffZ f=0)(al:List Bool) :
  ∃ al',Lem 400 x f al=some (pmt v f,0,al'):=by
 obtain⟨al',e⟩:=hn al
 refine⟨al',?_⟩
 have hv:Lel 400 x f al=some (some v,0,al'):=by
  unfold Lel
  rw[hc,bi_some,Kvx,hf,bi_some,e];rfl
 unfold Lem
 rw[hv,bi_some]
 show(bif (0:Int) != 0 then _ else bi (Ldt 400 v f) _)=_
 rw[Lpu hx h];rfl
theorem Lpw(h:VOk x v)(hn:∀ al,∃ al',Ldj 400 x al=some (v,al'))(hc:Lbl 400 x=some 0)(a:Kxe)(ha:caZ a=0)(al:List Bool) :
  ∃ o al',Leq 400 x a al=some (keyA x a,o,0,al'):=by
 obtain⟨al',e⟩:=hn al
 have hk:=Lqg x.Nodes x.Nodes.length (Nat.le_refl _) a
 unfold Leq Lep
 rw[hc,bi_some,Kvw,ha,bi_some,e,bi_some,h.ow]
 show ∃ o al2,(bif !(mGet (ownW x.Nodes x.Nodes.length) a).isSome then _ else _)=_
 unfold keyA
 rw[hk]
 cases hg:mGet (ownW x.Nodes x.Nodes.length) a with
 | none=>exact⟨false,al',rfl⟩
 | some j=>
  have hj:=Lqf x.Nodes _ (Nat.le_refl _) a j hg
  obtain⟨n,_,e2⟩:=Ktu x.Nodes hj.1 hj.2
  refine⟨true,al',?_⟩
  simp only[Option.isSome_some,Bool.not_true,cond_false,Option.getD_some,Option.bind_some,e2,bi_some,Option.map_some]
theorem Lpx(hx:ScOk x)(h:VOk x v)(hn:∀ al,∃ al',Ldj 400 x al=some (v,al'))(l:List Kxr)(hl:l.length≤100)(hr:∀ y∈l,nodOk y)(al:List Bool) :
  Ok (Ldu 400 x l al) fun r=>(r.2.1≠0∧r.1=[])∨(r.2.1=0∧Lbl 400 x=some 0∧(∀ y∈l,ffZ y.Flow=0)∧∀ (j:Nat) y,l[j]?=some y→((j:Int)∈r.1 ↔ cnd x v y=true)):=by
 obtain⟨e1,h1,_⟩:=Loi x hx
 obtain⟨e2,h2,_⟩:=Log x.Nodes hx.ns.1 hx.ns.2
 obtain⟨e3,h3,h3'⟩:=Lmq l (by omega) hr
 unfold Ldu Lbv
 rw[h1,bi_some]
 refine Kao (fun g=>Kak (.inl ⟨by simpa using g,rfl⟩)) fun g=>?_
 have c1:e1=0:=by simpa using g
 subst c1
 rw[h2,bi_some]
 cases g2:(e2 != 0)
 case true=>exact Kao (fun _=>Kak (.inl ⟨by simpa using g2,rfl⟩)) fun k=>absurd (g2.symm.trans k) (by decide)
 case false=>
 simp only[cond_false]
 rw[h3,bi_some]
 cases g3:(e3 != 0)
 case true=>exact Kao (fun _=>Kak (.inl ⟨by simpa using g3,rfl⟩)) fun k=>absurd (g3.symm.trans k) (by decide)
 case false=>
 have c3:e3=0:=by simpa using g3
 simp only[cond_false,Lqh,bi_some]
 obtain⟨al',e⟩:=hn al
 refine Kao (fun k=>absurd k (by decide)) fun _=>Kam e ?_
 refine Kal (P:=fun s:List Int=>s.length≤l.length∧∀ (j:Nat) y,l[j]?=some y→((j:Int)∈s ↔ cnd x v y=true)) (Kan (Kaq (fun i s=>s.length≤i∧∀ (j:Nat),(j:Int)∈s ↔ j<i∧∃ y,l[j]?=some y∧cnd x v y=true) ⟨Nat.le_refl _,fun j=>by simp⟩ ?_) ?_) fun q hq=>Kak (.inr ⟨rfl,(by assumption),h3' c3,hq.2⟩)
 ·rintro i y s hy ⟨k1,k2⟩
  have hi:=(List.getElem?_eq_some_iff.1 hy).1
  have stay:cnd x v y=false→s.length≤i+1∧∀ (j:Nat),(j:Int)∈s ↔ j<i+1∧∃ y,l[j]?=some y∧cnd x v y=true:=fun hc=>⟨by omega,fun j=>by
   rw[k2 j]
   constructor
   ·rintro⟨a,b⟩;exact⟨by omega,b⟩
   ·rintro⟨a,z,b,c⟩
    refine⟨?_,z,b,c⟩
    by_cases hj:j=i
    ·subst hj
     rw[hy] at b;cases b
     rw[hc] at c;cases c
    ·omega⟩
  have f1:(bif !y.Out then(bi (Ldk (⟨x.Nodes,l,ownK x.Nodes x.Nodes.length⟩:Kxs) y) fun y46=>some y46) else(some false))=some (!y.Out&&((keyA x y.Flow.To:Str)==y.Node)):=by
   unfold Ldk keyA
   cases hO:y.Out<;>rfl
  refine Kam f1 ?_
  unfold cnd at stay
  have p1:=Lpu hx h y.Flow
  have p2:Ldt 400 v ⟨y.Flow.Proto,y.Flow.To,y.Flow.From,y.Flow.ToPort,y.Flow.FromPort⟩=some (pmt v (bkF y.Flow)):=Lpu hx h (bkF y.Flow)
  cases a1 : !y.Out
  ·rw[a1] at stay
   exact Kam (r:=false) rfl (Kam (r:=false) rfl (Kak (stay rfl)))
  cases a2:((keyA x y.Flow.To:Str)==y.Node)
  ·rw[a1,a2] at stay
   exact Kam (r:=false) rfl (Kam (r:=false) rfl (Kak (stay rfl)))
  simp only[Bool.and_true,cond_true,p1,bi_some]
  cases a3:pmt v y.Flow
  ·simp only[Bool.not_false,cond_true,p2,bi_some]
   cases a4:pmt v (bkF y.Flow)
   ·simp only[Bool.not_false,cond_true]
    refine Kav (by simp;omega) (Kak ⟨by simp;omega,fun j=>?_⟩)
    have hc:cnd x v y=true:=by unfold cnd;rw[a1,a2,a3,a4];rfl
    simp only[List.mem_append,List.mem_singleton,k2 j]
    constructor
    ·rintro(⟨a,b⟩ | a)
     ·exact⟨by omega,b⟩
     ·have:j=i:=by omega
      subst this
      exact⟨by omega,y,hy,hc⟩
    ·rintro⟨a,b⟩
     by_cases hj:j=i
     ·exact .inr (by rw[hj])
     ·exact .inl ⟨by omega,b⟩
   ·rw[a1,a2,a3,a4] at stay
    exact Kak (stay rfl)
  ·rw[a1,a2,a3] at stay
   exact Kam (r:=false) rfl (Kak (stay rfl))
 ·rintro s ⟨k1,k2⟩
  refine⟨k1,fun j y hy=>?_⟩
  rw[k2 j]
  constructor
  ·rintro⟨_,z,b,c⟩
   rw[hy] at b;cases b
   exact c
  ·exact fun c=>⟨(List.getElem?_eq_some_iff.1 hy).1,y,hy,c⟩
end
theorem TopReportsArePermitted_true(l:List Int)(hl:l.length≤9223372036854775807)(al:List Bool):∃ al',Ler 400 l al=some (true,al'):=by
 suffices h:Ok (Ler 400 l al) fun r=>r.1=true by
  obtain⟨⟨b,al'⟩,e,rfl⟩:=h
  exact⟨al',e⟩
 unfold Ler
 refine Kal (Kvv (a:=0) (b:=0) ⟨rfl,Int.le_refl 0,Int.le_refl 0⟩ hl (by decide) (by decide)) fun x hx=>?_
 refine Kal (Kba hx.2 0 8 hl (by decide) (by decide) (by decide) (by decide) (by decide)) fun n hn=>?_
 refine Kal (Lni n.1 hn.1 hn.2.1 hn.2.2 hl (by decide) (by decide)) fun r hr=>?_
 obtain⟨v,hv,hnew⟩:=Lqj x.1 hx.1
 refine Kal (Lpx hx.1 hv hnew r.1 hr.1 hr.2 al) fun q hq=>?_
 rcases hq with⟨q1,q2⟩ | ⟨q1,hc,hff,hmem⟩
 ·have:(q.2.1 != 0)=true:=by simpa using q1
  rw[this,q2,Kvi]
  exact⟨_,rfl,rfl⟩
 rw[q1]
 refine Kao (fun g=>absurd g (by decide)) fun _=>?_
 refine Kvk (P:=TT) (Kas (fun _ _=>True) (fun r:Bool×List Bool=>r.1=true) trivial fun i y s hy _=>?_) fun s _=>by rw[Kvi];exact⟨_,rfl,rfl⟩
 have hf:=hff y (List.mem_of_getElem? hy)
 obtain⟨b1,b2,b3⟩:=Kvy y.Flow hf
 obtain⟨al1,e1⟩:=Lpv hx.1 hv hnew hc y.Flow hf s
 obtain⟨al2,e2⟩:=Lpv hx.1 hv hnew hc (bkF y.Flow) b1 al1
 obtain⟨o,al3,e3⟩:=Lpw hv hnew hc y.Flow.To b3 al2
 have hm:=hmem i y hy
 refine Kam (Kvz _ hf) (Kam e1 (Kam e2 ?_))
 rw[Lpt]
 have ht:decide ((i:Int)∈q.1)=cnd x.1 v y:=by
  cases hcn:cnd x.1 v y
  ·exact decide_eq_false fun k=>by rw[hm.1 k] at hcn;cases hcn
  exact decide_eq_true (hm.2 hcn)
 rw[ht]
 unfold cnd
 refine Kam (r:=false) ?_ ?_
 ·show bi (some _) _=_
  cases y.Out<;>cases ((keyA x.1 y.Flow.To:Str)==y.Node)<;>cases pmt v y.Flow<;>cases pmt v (bkF y.Flow)<;>rfl
 simp only[cond_false]
 refine Kam e3 (Kam (r:=false) ?_ (Kak trivial))
 cases y.Out<;>cases ((keyA x.1 y.Flow.To:Str)==y.Node)<;>cases pmt v y.Flow<;>cases pmt v (bkF y.Flow)<;>rfl
end Go.Gk
