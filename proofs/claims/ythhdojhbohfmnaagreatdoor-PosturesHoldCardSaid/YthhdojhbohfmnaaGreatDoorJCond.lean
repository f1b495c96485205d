import Derived.Test.YthhdojhbohfmnaaGreatDoorQIns
import Derived.Test.YthhdojhbohfmnaaGreatDoorJSh
set_option linter.all false
set_option maxRecDepth 100000
namespace Go.Gk
mutual
def CC.sh:CC→Sh
 | .mk k _ _ _ l=>if k=1 then .leaf else if k=2 then .neg ((CC.shs l).headD .leaf) else .grp (if k=3 then 0 else 1) (CC.shs l)
def CC.shs:List CC→List Sh
 | []=>[]
 | c :: r=>c.sh :: CC.shs r
end
mutual
def CC.lf:CC→List CC
 | .mk k n o v l=>if k=1 then[.mk k n o v l] else CC.lfs l
def CC.lfs:List CC→List CC
 | []=>[]
 | c :: r=>c.lf++CC.lfs r
end
inductive CC.WF:CC→Prop
 | leaf {n o:Str} {v:Kyd} (h:opsB o=true):CC.WF (.mk 1 n o v [])
 | neg {n o:Str} {v:Kyd} {x:CC} (h:x.WF):CC.WF (.mk 2 n o v [x])
 | grp {k:Int} {n o:Str} {v:Kyd} {l:List CC} (hk:k=3∨k=4) (hl:l≠[]) (h:∀ x∈l,x.WF):CC.WF (.mk k n o v l)
theorem Kqk{k:Nat}:∀ {l:List Kye} (i:Nat),rangeM (σ:=Unit) (ρ:=Int) (fun i44 x46 s45=>bi (Kzu k x46) fun y55=>bif (y55:Int) != 0 then(bi (some y55) fun v=>some (.out v)) else(some (.go ()))) i l ()=some (.go ())→∀ x∈l,Kzu k x=some 0
 | [],_,_,x,hx=>absurd hx List.not_mem_nil
 | y :: l,i,h,x,hx=>by
  simp only[rangeM] at h
  cases hy:Kzu k y with
  | none=>rw[hy] at h;cases h
  | some e=>
   rw[hy,bi_some] at h
   cases he:((e:Int) != 0) with
   | true=>rw[he] at h;cases h
   | false=>
    rw[he] at h
    have e0:e=0:=by simpa using he
    rcases List.mem_cons.1 hx with rfl | hx
    ·rw[hy,e0]
    exact Kqk (i+1) h x hx
theorem Kql{k:Nat}:∀ {l:List Kye} (i:Nat) {v:Int},rangeM (σ:=Unit) (ρ:=Int) (fun i44 x46 s45=>bi (Kzu k x46) fun y55=>bif (y55:Int) != 0 then(bi (some y55) fun v=>some (.out v)) else(some (.go ()))) i l ()=some (.out v)→v≠0
 | [],_,_,h=>by cases h
 | y :: l,i,v,h=>by
  simp only[rangeM] at h
  cases hy:Kzu k y with
  | none=>rw[hy] at h;cases h
  | some e=>
   rw[hy,bi_some] at h
   cases he:((e:Int) != 0) with
   | true=>
    rw[he] at h
    cases h
    simpa using he
   | false=>rw[he] at h;exact Kql (i+1) h
theorem Kqm{c:Kye}{ea:Int}(h:leafE c ea=0):opsB c.Op=true:=by
 unfold leafE at h
 cases ho:opsB c.Op with
 | true=>rfl
 | false=>
  rw[ho] at h
  cases hn:nameB c.Name<;>simp[hn] at h
theorem Kqn:∀ (n k:Nat) (c:CC),c.Gd→c.dp≤n→n+50010<k→Kzu k c.t=some 0→c.WF
 | 0,k,c,hg,hn,hk,h=>by cases c;simp[CC.dp] at hn
 | n+1,0,c,hg,hn,hk,h=>by omega
 | n+1,k+1,c,hg,hn,hk,h=>by
  have hu:=Kaw c
  cases hg with
  | mk g1 g2 g3=>
   rename_i K nm op v l
   obtain⟨ea,hP,_⟩:=Kbe k (by omega) v g2
   rw[Kbl,Kbn _ _ hu,Kbm k (by omega) (CC.mk K nm op v l).t ea g1 hP,hu] at h
   simp only[Kzi,bi_some,show(CC.mk K nm op v l).t.Kind=K from rfl] at h
   cases ho:(decide ((K:Int)<1)||decide ((K:Int)>4)) with
   | true=>rw[ho] at h;cases h
   | false=>
    rw[ho] at h
    simp only[Bool.or_eq_false_iff,decide_eq_false_iff_not] at ho
    cases hf:formB (CC.mk K nm op v l).t ((CC.mk K nm op v l).kids.map CC.t) with
    | false=>rw[hf] at h;cases h
    | true=>
     rw[hf] at h
     simp only[Bool.not_true,cond_false] at h
     have hq:(K=1→opsB op=true)∧kidsP k ((CC.mk K nm op v l).kids.map CC.t)=some 0:=by
      cases hk1:((K:Int)==1) with
      | false=>
       rw[hk1] at h
       exact⟨fun e=>by subst e;simp at hk1,h⟩
      | true=>
       rw[hk1,cond_true] at h
       by_cases hz:leafE (CC.mk K nm op v l).t ea=0
       ·rw[if_pos hz] at h
        exact⟨fun _=>Kqm hz,h⟩
       rw[if_neg hz] at h
       simp only[orI_inr,Option.some.injEq] at h
       exact absurd h hz
     obtain⟨hop,hkid⟩:=hq
     have hkids:∀ x∈l,x.WF:=fun x hx=>by
      refine Kqn n k x (g3 x hx) (by have:=Kay (c:=.mk K nm op v l) hx;omega) (by omega) ?_
      unfold kidsP at hkid
      obtain⟨r,hr,h2⟩:=Kfx hkid
      cases r with
      | go u=>exact Kqk 0 hr x.t (List.mem_map.2 ⟨x,hx,rfl⟩)
      | out v=>simp only[goI_out,Option.some.injEq] at h2;exact absurd h2 (Kql 0 hr)
     unfold formB at hf
     simp only[show(CC.mk K nm op v l).t.Kind=K from rfl,show(CC.mk K nm op v l).kids=l from rfl,List.length_map] at hf
     by_cases k1:K=1
     ·subst k1
      simp only[beq_self_eq_true,cond_true] at hf
      have hl:l=[]:=List.eq_nil_of_length_eq_zero (by have:=eq_of_beq hf;omega)
      subst hl
      exact .leaf (hop rfl)
     rw[show((K:Int)==1)=false by simpa using k1,cond_false] at hf
     by_cases k2:K=2
     ·subst k2
      simp only[beq_self_eq_true,cond_true,Bool.and_eq_true,Bool.not_eq_true',bne_eq_false_iff_eq] at hf
      match l,hf,hkids with
      | [x],_,hk=>exact .neg (hk x mCs)
      | [],hf,_=>simp at hf
      | _ :: _ :: _,hf,_=>have:=hf.1;simp at this;omega
     rw[show((K:Int)==2)=false by simpa using k2,cond_false] at hf
     refine .grp (by omega) (fun e=>?_) hkids
     subst e
     simp at hf
theorem Kqo:∀ l:List CC,(∀ x∈l,x.sh.n=x.lf.length∧1≤x.sh.n)→Sh.ns (CC.shs l)=(CC.lfs l).length∧l.length≤Sh.ns (CC.shs l)
 | [],_=>⟨rfl,Nat.le_refl _⟩
 | c :: r,h=>by
  obtain⟨h1,h2⟩:=Kqo r fun x hx=>h x (mCo _ hx)
  obtain⟨h3,h4⟩:=h c mCs
  simp only[CC.shs,Sh.ns,CC.lfs,List.length_append,List.length_cons]
  omega
theorem sh_n{c:CC}(h:c.WF):c.sh.n=c.lf.length∧1≤c.sh.n:=by
 induction h with
 | leaf h=>simp[CC.sh,CC.lf,Sh.n]
 | neg h ih=>
  simp only[CC.sh,CC.lf,CC.shs,CC.lfs,List.headD_cons,Sh.n,List.append_nil]
  exact ih
 | @grp k n o v l hk hl h ih=>
  obtain⟨h1,h2⟩:=Kqo l ih
  have:1≤l.length:=List.length_pos_iff.2 hl
  simp only[CC.sh,CC.lf,if_neg (show ¬ k=1 by omega),if_neg (show ¬ k=2 by omega),Sh.n]
  exact⟨h1,by omega⟩
theorem Kqp:∀ l:List CC,(∀ x∈l,x.sh.ok)→Sh.oks (CC.shs l)
 | [],_=>trivial
 | c :: r,h=>⟨h c mCs,Kqp r fun x hx=>h x (mCo _ hx)⟩
theorem Kqq{c:CC}(h:c.WF):c.sh.ok:=by
 induction h with
 | leaf h=>simp[CC.sh,Sh.ok]
 | neg h ih=>simp only[CC.sh,CC.shs,List.headD_cons,Sh.ok];exact ih
 | @grp k n o v l hk hl h ih=>
  simp only[CC.sh,if_neg (show ¬ k=1 by omega),if_neg (show ¬ k=2 by omega),Sh.ok]
  refine⟨?_,Kqp l ih⟩
  by_cases h3:k=3
  ·rw[if_pos h3];exact .inl rfl
  rw[if_neg h3];exact .inr rfl
theorem Kqr(a b:Kyd):∃ y,Lao a b=some y∧Lcv a b=some (bif (a.Kind:Int) != b.Kind then(0,false) else(y,true)):=by
 obtain⟨y,hy⟩:=Kwf ([a.Version.1,a.Version.2.1,a.Version.2.2.1,a.Version.2.2.2]:List Int) ([b.Version.1,b.Version.2.1,b.Version.2.2.1,b.Version.2.2.2]:List Int)
 unfold Lao Lcv Kud
 rw[Lij,hy]
 simp only[bi_some]
 rw[or3]
 simp only[bi_some]
 refine⟨_,rfl,?_⟩
 cases (a.Kind != b.Kind)<;>rfl
def decB(op:Str)(y:Int):Bool:=(Lap op y).getD false
theorem Kqs{op:Str}(h:opsB op=true)(y:Int):Lap op y=some (decB op y)∧(mGet (mSet (mSet (mSet (mSet (mSet (mSet ([]:List (Str×Bool)) [61,61] ((y:Int)==0)) [33,61] ((y:Int) != 0)) [60] (decide ((y:Int)<0))) [60,61] (decide ((y:Int)≤0))) [62] (decide ((y:Int)>0))) [62,61] (decide ((y:Int)≥0))) op).getD false=decB op y:=by
 simp only[opsB,List.any_cons,List.any_nil,Bool.or_false,Bool.or_eq_true,beq_iff_eq] at h
 rcases h with rfl | rfl | rfl | rfl | rfl | rfl<;>exact⟨rfl,rfl⟩
def lv(l:List Kyh)(fresh:Int)(node:Str)(v:Int)(c:CC):Int:=(Lcw c.t l fresh node v).getD 2
theorem Kqt{m:List (Kyi×(Tl Kyh))}{al:List Bool}{l:List Kyh}{fresh:Int}(hI:InvR al m l)(hl:l.length≤900)(node:Str)(v:Int){c:CC}(ho:opsB c.t.Op=true)(n:Int) :
  (lv l fresh node v c=0∨lv l fresh node v c=1∨lv l fresh node v c=2)∧Lcw c.t l fresh node v=some (lv l fresh node v c)∧
  (bi (Lam ⟨fresh,m⟩ node c.t.Name v) fun y2=>bif ((!y2.2)||((y2.1.Kind:Int) != c.t.Value.Kind)) then(some ((⟨2,[]⟩:Kyl),wi (n+1))) else(bi (Lao y2.1 c.t.Value) fun y6=>bi (Lap c.t.Op y6) fun y8=>bif y8 then(some ((⟨1,[n]⟩:Kyl),wi (n+1))) else(some ((⟨0,[n]⟩:Kyl),wi (n+1))))) =
   some ((⟨lv l fresh node v c,if lv l fresh node v c=2 then[] else[n]⟩:Kyl),wi (n+1)):=by
 obtain⟨a,kn,hkn⟩:=Kuu l hl fresh node c.t.Name v
 obtain⟨y,h1,h2⟩:=Kqr a c.t.Value
 obtain⟨d1,d2⟩:=Kqs ho y
 have hJ:Lcw c.t l fresh node v=some (bif ((!kn)||((a.Kind:Int) != c.t.Value.Kind)) then 2 else bif decB c.t.Op y then 1 else 0):=by
  unfold Lcw
  rw[hkn,bi_some,h2,bi_some]
  cases kn with
  | false=>simp
  | true=>
   cases hK:((a.Kind:Int) != c.t.Value.Kind) with
   | true=>simp
   | false=>
    simp only[Bool.not_true,Bool.false_or,cond_false]
    rw[d2]
    cases decB c.t.Op y<;>rfl
 have hv:lv l fresh node v c=bif ((!kn)||((a.Kind:Int) != c.t.Value.Kind)) then 2 else bif decB c.t.Op y then 1 else 0:=by unfold lv;rw[hJ];rfl
 rw[Kwd hI hl,hkn,bi_some,hJ,hv,h1,bi_some,d1,bi_some]
 cases ((!kn)||((a.Kind:Int) != c.t.Value.Kind)) with
 | true=>exact⟨.inr (.inr rfl),rfl,rfl⟩
 | false=>
  cases decB c.t.Op y with
  | true=>exact⟨.inr (.inl rfl),rfl,rfl⟩
  | false=>exact⟨.inl rfl,rfl,rfl⟩
end Go.Gk
