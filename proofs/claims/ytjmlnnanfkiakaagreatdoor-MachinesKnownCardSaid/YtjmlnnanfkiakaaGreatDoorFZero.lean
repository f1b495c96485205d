import Derived.Test.YtjmlnnanfkiakaaGreatDoorFRun
set_option linter.all false
set_option maxRecDepth 100000
namespace Go.Gk
section
variable{α β:Type}{m n:Option α}{c:Bool}{Q:α→Prop}
theorem ok_t(h:c=true)(k:Ok m Q):Ok (bif c then m else n) Q:=by subst h;exact k
theorem ok_f(h:c=false)(k:Ok n Q):Ok (bif c then m else n) Q:=by subst h;exact k
end
theorem Kdd{s:Lby}(h:StepOk s)(h0:Ldq s=some 0):StepV s:=by
 obtain⟨e,he,he'⟩:=Kyu h
 rw[he'] at h0
 cases h0
 have hf:=he
 unfold Lem at hf
 rw[show Lec s.At=some (decide (s.At≥0)&&decide (s.At<345686400)) from rfl,bi_some] at hf
 cases hm:(decide (s.At≥0)&&decide (s.At<345686400)) with
 | false=>rw[hm] at hf;simp at hf
 | true=>
  rw[hm] at hf
  simp only[Bool.not_true,cond_false] at hf
  obtain⟨c,hc,_⟩:=Kyv _ h.sv
  rw[hc,bi_some] at hf
  cases c with
  | false=>simp at hf
  | true=>
   simp only[Bool.not_true,cond_false] at hf
   obtain⟨d,hd,hd'⟩:=Kya s.No 1 1000000
   rw[hd,bi_some] at hf
   cases d with
   | true=>simp at hf
   | false=>
    simp only[cond_false] at hf
    obtain⟨f,hf1,hf1'⟩:=Kya s.Kind 1 9
    rw[hf1,bi_some] at hf
    cases f with
    | true=>simp at hf
    | false=>
     simp only[cond_false] at hf
     have kk:1≤s.Kind∧s.Kind≤9:=by
      unfold Ldj at hf1'
      simpa using hf1'
     simp only[Bool.and_eq_true,decide_eq_true_eq] at hm
     refine⟨h,⟨by omega,by omega⟩,kk,fun K=>?_⟩
     obtain⟨b0,hb0,hb0'⟩:=Kyv _ h.by_
     obtain⟨b2,hb2,hb2'⟩:=Kyv _ (Kyz _ h.jn)
     obtain⟨e5,he5,he5',hl5⟩:=Kyx _ h.tg
     have P0:=pf0 s hb0;have P2:=pf2 s hb2;have P5:=pf5 s he5 hl5
     have P6:=pf6 s;have P7:=pf7 s;have P8:=pf8 s
     rw[K] at P0 P2
     have hq:=(Kys (show Led s.Kind=some [0,2,5,6,7,8] by rw[K];rfl) (Kyo s [0,2,5,6,7,8] [bif b0 then 0 else 5,bif b2 then 0 else 5,e5,_,_,0] (by simp only[List.map_cons,List.map_nil,P0,P2,P5,P6,P7,P8];cases b0<;>cases b2<;>rfl))).symm.trans hf
     cases b0 with
     | false=>simp[List.find?] at hq
     | true=>
      cases b2 with
      | false=>simp[List.find?] at hq
      | true=>
       refine⟨fun g=>?_,fun g=>?_⟩
       ·have:=Kyr hb2' (by rw[g];rfl);cases this
       have:=Kyr hb0' (by rw[g];rfl);cases this
theorem Kde(a b:Lby):∃ c,Lcy a b=some c∧(c<0→a.At≤b.At):=by
 unfold Lcy Kvl
 rw[Kyb,Kyb]
 simp only[bi_some]
 obtain⟨c,h,h2⟩:=Kyc (cmpI a.At b.At) [Lib.compareBytes a.Server b.Server,cmpI a.No b.No]
 rw[h]
 refine⟨c,rfl,fun hc=>?_⟩
 by_cases h0:cmpI a.At b.At=0
 ·unfold cmpI at h0
  split at h0
  ·omega
  split at h0<;>omega
 have:=h2 h0
 rw[this] at hc
 unfold cmpI at hc
 split at hc
 ·omega
 split at hc<;>omega
theorem Kdf{l:List Lby}(h:AllS l)(hl:l.length≤1000)(h0:Ldu l=some 0):AllV l∧Srt l:=by
 have key:Ok (Ldu l) fun e=>e=0→(∀ s∈l,Ldq s=some 0)∧∀ (j:Nat) a b,l[j]?=some a→l[j+1]?=some b→a.At≤b.At:=by
  unfold Ldu
  rw[decide_eq_false (show ¬ ((l.length:Int)>2000) by omega)]
  simp only[cond_false]
  refine Lac (Laj (fun i (_:Unit)=>(∀ s∈l.take i,Ldq s=some 0)∧∀ (j:Nat) a b,j+1<i→l[j]?=some a→l[j+1]?=some b→a.At≤b.At) (fun q=>q≠0) ⟨fun s hs=>by simp at hs,fun j a b hj=>absurd hj (by omega)⟩ fun i x st hx hI=>?_) fun r hr=>?_
  ·have hi:i<l.length:=(List.getElem?_eq_some_iff.1 hx).1
   obtain⟨e,_,he⟩:=Kyu (h x (List.mem_of_getElem? hx))
   refine Lad he ?_
   refine Laf (fun hz=>Lab (by simpa using hz)) fun hz=>?_
   have hz:e=0:=by simpa using hz
   subst hz
   refine Lac (P:=fun q=>q=false→∀ (j:Nat) a,j+1=i→l[j]?=some a→a.At≤x.At) (Laf (fun g=>?_) fun g=>Lab fun _ j a hj=>?_) fun q hq=>?_
   ·have g:(i:Int)>0:=of_decide_eq_true g
    refine Lal (j:=i - 1) (x:=l[i - 1]) (by rw[Kxl (by omega) (by omega)];omega) (List.getElem?_eq_getElem (by omega)) ?_
    obtain⟨c,hc,hc2⟩:=Kde l[i - 1] x
    refine Lad hc (Lab fun hf j a hj ha=>?_)
    have:¬ (c≥0):=of_decide_eq_false hf
    have e1:j=i - 1:=by omega
    subst e1
    rw[List.getElem?_eq_getElem (by omega)] at ha
    cases ha
    exact hc2 (by omega)
   ·have:=of_decide_eq_false g
    omega
   refine Laf (fun _=>Lab (show(7:Int)≠0 by decide)) fun hq0=>?_
   rw[show subZ l 0 (i:Int)=some (l.take i) from(Kwh (i:=0) (Nat.zero_le _) (by omega)).trans rfl]
   refine Lad rfl (Lad (Kzx _ _) (Laf (fun _=>Lab (show(6:Int)≠0 by decide)) fun _=>Lab ⟨fun s hs=>?_,fun j a b hj ha hb=>?_⟩))
   ·rw[Kzy hx,List.mem_append] at hs
    rcases hs with hs | hs
    ·exact hI.1 s hs
    rw[List.mem_singleton] at hs
    subst hs
    exact he
   by_cases hji:j+1=i
   ·subst hji
    rw[hx] at hb
    cases hb
    exact hq hq0 j a rfl ha
   exact hI.2 j a b (by omega) ha hb
  cases r with
  | out q=>exact Lab fun g=>absurd g hr
  | go s=>
   rw[List.take_length] at hr
   exact Lab fun _=>⟨hr.1,fun j a b ha hb=>hr.2 j a b (List.getElem?_eq_some_iff.1 hb).1 ha hb⟩
 obtain⟨e,h1,h2⟩:=key
 rw[h0] at h1
 cases h1
 obtain⟨h2,h3⟩:=h2 rfl
 refine⟨fun s hs=>Kdd (h s hs) (h2 s hs),Kzr ?_⟩
 have far:∀ (n i:Nat) (a b:Lby),l[i]?=some a→l[i+1+n]?=some b→a.At≤b.At:=by
  intro n
  induction n with
  | zero=>exact fun i a b ha hb=>h3 i a b ha hb
  | succ n ih=>
   intro i a b ha hb
   have hi:i+1+(n+1)<l.length:=(List.getElem?_eq_some_iff.1 hb).1
   have hm:l[i+1+n]?=some l[i+1+n]:=List.getElem?_eq_getElem (by omega)
   have h4:=ih i a _ ha hm
   have h5:=h3 _ _ _ hm hb
   omega
 intro i j a b hij ha hb
 obtain⟨n,rfl⟩:∃ n,j=i+1+n:=⟨j - (i+1),by omega⟩
 exact far n i a b ha hb
theorem Kdg{d:Lbx}{l:List Lby}(hd:DirOk d)(hl:AllS l)(hn:l.length≤1000){e e2:Int}(h1:Ldk d=some e)(h2:Ldu l=some e2) :
  Leq 400 d l=some (if e≠0 then e else e2):=by
 obtain⟨e3,c1,c2,_⟩:=Laa hl hn
 rw[h2] at c2
 cases c2
 unfold Leq
 rw[Kxe hd,h1,bi_some]
 by_cases h0:e=0
 ·subst h0;simp[c1,bi_some]
 ·have:(e != 0)=true:=by simpa using h0
  simp[this,h0]
theorem Kdh{l:List Lby}(hl:AllV l){z:Int}(hz:345686400≤z):l.filter (fun s=>decide (s.At≤z))=l:=by
 rw[List.filter_eq_self]
 intro s hs
 have:=(hl s hs).z
 exact decide_eq_true (by omega)
end Go.Gk
