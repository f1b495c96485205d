import Derived.Test.YtmecneoeklldeaaGreatDoorCDraw
import Derived.Test.YtmecneoeklldeaaGreatDoorCKText
set_option linter.all false
set_option maxRecDepth 100000
namespace Go.Gk
def AR(v:Kuq):Prop:=∀ k,10<k→∃ t,Kwa k v=some t∧Kwt k v=some t∧t.length≤250
inductive CC.OK:CC→Prop
 | leaf {n o:Str} {v:Kuq} (hn:n.length≤40) (ho:o.length≤2) (hv:AR v):CC.OK (.mk 1 n o v [])
 | neg {n o:Str} {v:Kuq} {x:CC} (h:x.OK):CC.OK (.mk 2 n o v [x])
 | grp {k:Int} {n o:Str} {v:Kuq} {l:List CC} (hk:k=3∨k=4) (hl:l≠[]) (h:∀ x∈l,x.OK):CC.OK (.mk k n o v l)
theorem Kbp{k:Nat}:∀ {l:List Kur} (i:Nat),rangeM (σ:=Unit) (ρ:=Int) (fun i44 x46 s45=>bi (Kvv k x46) fun y55=>bif (y55:Int) != 0 then(bi (some y55) fun v=>some (.out v)) else(some (.go ()))) i l ()=some (.go ())→∀ x∈l,Kvv k x=some 0
 | [],_,_,x,hx=>absurd hx List.not_mem_nil
 | y :: l,i,h,x,hx=>by
  simp only[rangeM] at h
  cases hy:Kvv k y with
  | none=>rw[hy] at h;cases h
  | some e=>
   rw[hy] at h
   simp only[bi_some] at h
   cases he:((e:Int) != 0) with
   | true=>rw[he] at h;cases h
   | false=>
    rw[he] at h
    have e0:e=0:=by simpa using he
    rcases List.mem_cons.1 hx with rfl | hx
    ·rw[hy,e0]
    exact Kbp (i+1) h x hx
theorem Kbq{k:Nat}{l:List Kur}(h:kidsP k l=some 0):∀ x∈l,Kvv k x=some 0:=by
 unfold kidsP at h
 cases hR:rangeM (σ:=Unit) (ρ:=Int) (fun i44 x46 s45=>bi (Kvv k x46) fun y55=>bif (y55:Int) != 0 then(bi (some y55) fun v=>some (.out v)) else(some (.go ()))) 0 l () with
 | none=>rw[hR] at h;cases h
 | some q=>
  cases q with
  | go s=>exact Kbp 0 hR
  | out r=>
   rw[hR] at h
   exfalso
   have hr:r=0:=by simpa [goI] using h
   subst hr
   have key:∀ (l:List Kur) (i:Nat),rangeM (σ:=Unit) (ρ:=Int) (fun i44 x46 s45=>bi (Kvv k x46) fun y55=>bif (y55:Int) != 0 then(bi (some y55) fun v=>some (.out v)) else(some (.go ()))) i l ()≠some (.out 0):=by
    intro l
    induction l with
    | nil=>intro i h;cases h
    | cons y l ih=>
     intro i h
     simp only[rangeM] at h
     cases hy:Kvv k y with
     | none=>rw[hy] at h;cases h
     | some e=>
      rw[hy] at h
      simp only[bi_some] at h
      cases he:((e:Int) != 0) with
      | true=>
       rw[he] at h
       have:e=0:=by simpa using h
       rw[this] at he
       cases he
      | false=>
       rw[he] at h
       exact ih (i+1) h
   exact key l 0 hR
theorem Kbr:∀ (n k:Nat) (c:CC),c.Gd→c.dp≤n→n+50010<k→Kvv k c.t=some 0→c.OK
 | n,0,c,_,_,h,_=>by omega
 | 0,k,c,_,h,_,_=>by cases c;simp[CC.dp] at h
 | n+1,k+1,c,hg,hd,hk,h=>by
  cases c with
  | mk K nm op va l=>
   cases hg with
   | mk g1 g2 g3=>
    have hu:=Kab (.mk K nm op va l)
    simp only[CC.kids] at hu
    obtain⟨ea,hP,hR⟩:=Kaj k (by omega) va g2
    rw[Kaq,Kas _ _ hu] at h
    have hK':(CC.mk K nm op va l).t.Kind=K:=rfl
    have hN':(CC.mk K nm op va l).t.Name=nm:=rfl
    have hO':(CC.mk K nm op va l).t.Op=op:=rfl
    have hV':(CC.mk K nm op va l).t.Value=va:=rfl
    have hL':(l.map CC.t).length=l.length:=List.length_map ..
    have hKids:∀ x∈l,Kvv k x.t=some 0→x.OK:=fun x hx hx0=>Kbr n k x (g3 x hx) (by have:=Kac l x hx;simp only[CC.dp] at hd;omega) (by omega) hx0
    unfold Kvi at h
    simp only[bi_some,hK'] at h
    by_cases hr:1≤K∧K≤4
    ·rw[show(decide (K<1)||decide (K>4))=false by simp;omega,cond_false] at h
     cases hF:formB (CC.mk K nm op va l).t (l.map CC.t) with
     | false=>rw[hF] at h;cases h
     | true=>
      rw[hF,Bool.not_true,cond_false,Kar k (by omega) _ ea g1 hP,bi_some,hK',hu] at h
      unfold formB at hF
      rw[hK',hL'] at hF
      by_cases h1:K=1
      ·subst h1
       rw[show((1:Int)==1)=true from rfl] at hF h
       simp only[cond_true] at hF h
       have hl0:l.length=0:=by
        have:((l.length:Int))=0:=by simpa using hF
        omega
       have hl:l=[]:=List.eq_nil_of_length_eq_zero hl0
       subst hl
       by_cases hE:leafE (CC.mk 1 nm op va []).t ea=0
       ·unfold leafE at hE
        rw[hN',hO',hV'] at hE
        cases hb:nameB nm with
        | false=>rw[hb] at hE;cases hE
        | true=>
         cases ho:opsB op with
         | false=>rw[hb,ho] at hE;cases hE
         | true=>
          cases he:((ea:Int) != 0) with
          | true=>
           rw[hb,ho,he] at hE
           simp only[Bool.not_true,cond_false,cond_true] at hE
           rw[hE] at he
           cases he
          | false=>
           have e0:ea=0:=by simpa using he
           subst e0
           refine .leaf ?_ ?_ (Kcy k (by omega) va g2 hP)
           ·unfold nameB keyB at hb
            simp only[Bool.and_eq_true,decide_eq_true_eq] at hb
            omega
           unfold opsB at ho
           simp only[List.any_cons,List.any_nil,Bool.or_false,Bool.or_eq_true,beq_iff_eq] at ho
           rcases ho with e | e | e | e | e | e<;>simp[e]
       rw[if_neg hE] at h
       exfalso
       exact hE (by simpa [orI] using h)
      rw[show((K:Int)==1)=false by simpa using h1] at hF h
      simp only[cond_false] at hF h
      have hz:∀ x∈l,x.OK:=fun x hx=>hKids x hx (Kbq (by simpa [orI] using h) x.t (List.mem_map_of_mem hx))
      by_cases h2:K=2
      ·subst h2
       rw[show((2:Int)==2)=true from rfl] at hF
       simp only[cond_true,Bool.and_eq_true] at hF
       have hl:l.length=1:=by
        have:=hF.1
        simp at this
        omega
       obtain⟨x,rfl⟩:∃ x,l=[x]:=by
        match l,hl with
        | [x],_=>exact⟨x,rfl⟩
       exact .neg (hz x (by simp))
      rw[show((K:Int)==2)=false by simpa using h2] at hF
      simp only[cond_false,Bool.and_eq_true] at hF
      refine .grp (by omega) (fun e=>?_) hz
      subst e
      have:=hF.1.1
      simp at this
    rw[show(decide (K<1)||decide (K>4))=true by simp;omega] at h
    cases h
theorem Kbs:∀ (n k:Nat) (c:CC),c.OK→c.dp≤n→n+20<k→c.tw≤100000→∃ t,Kwb k c.t=some t∧Kwu k c.t=some t∧t.length≤5 * c.tw
 | n,0,c,_,_,h,_=>by omega
 | 0,k,c,_,h,_,_=>by cases c;simp[CC.dp] at h
 | n+1,k+1,c,hr,hd,hk,hw=>by
  cases hr with
  | @leaf nm o v hn ho hv=>
   obtain⟨t,t1,t2,t3⟩:=hv k (by omega)
   refine⟨nm++[32]++o++[32]++t,?_,?_,?_⟩
   ·simp only[Kwb]
    show bi (catZ nm [32]) _=_
    rw[Kdq (by simp;omega),bi_some]
    show bi (catZ _ o) _=_
    rw[Kdq (by simp;omega),bi_some,Kdq (by simp;omega),bi_some]
    show bi (Kwa k v) _=_
    rw[t1,bi_some,Kdq (by simp;omega),bi_some]
   ·simp only[Kwu,Kab,bi_some]
    show bi (some ([]:List Str)) _=_
    rw[bi_some]
    show bi (catZ nm [32]) _=_
    rw[Kdq (by simp;omega),bi_some]
    show bi (catZ _ o) _=_
    rw[Kdq (by simp;omega),bi_some,Kdq (by simp;omega),bi_some]
    show bi (Kwt k v) _=_
    rw[t2,bi_some,Kdq (by simp;omega),bi_some]
   simp[CC.tw,CC.tws]
   omega
  | @neg nm o v x hx=>
   simp only[CC.dp,CC.dps] at hd
   have hwl:(CC.mk 2 nm o v [x]).tw=x.tw+10:=by simp[CC.tw,CC.tws]
   rw[hwl] at hw ⊢
   obtain⟨t,t1,t2,t3⟩:=Kbs n k x hx (by omega) (by omega) (by omega)
   have hK2:(CC.mk 2 nm o v [x]).t.Kind=2:=rfl
   have hu:unK d_api_Cond 11 (CC.mk 2 nm o v [x]).t.Kids=some [x.t]:=Kab (.mk 2 nm o v [x])
   cases hK:((x.t.Kind:Int)==2) with
   | true=>
    refine⟨33 :: t,?_,?_,by simp;omega⟩
    ·simp only[Kwb]
     rw[hK2,show((2:Int)==1)=false from rfl,show((2:Int)==2)=true from rfl,cond_false,cond_true,hu,bi_some,show getZ [x.t] 0=some x.t from rfl,bi_some,hK,cond_true,bi_some,show getZ [x.t] 0=some x.t from rfl,bi_some,t1,bi_some,Kdq (by simp;omega),bi_some]
     rfl
    simp only[Kwu,hu,bi_some]
    simp only[rangeF]
    rw[t2,bi_some]
    simp only[hK2,show((2:Int)==2)=true from rfl,show((2:Int)==1)=false from rfl]
    rw[show((x.t.Kind:Int) != 2)=false by simp[bne,hK]]
    simp only[Bool.and_false,show((2:Int)==3)=false from rfl,Bool.false_and,Bool.or_self,cond_false,cond_true,bi_some]
    rw[Ktx (by simp),bi_some,bi_some]
    rw[bi_some,show getZ ([]++[t]:List Str) 0=some t from rfl,bi_some,Kdq (by simp;omega),bi_some]
    rfl
   | false=>
    refine⟨33 :: 40 :: (t++[41]),?_,?_,by simp;omega⟩
    ·simp only[Kwb]
     rw[hK2,show((2:Int)==1)=false from rfl,show((2:Int)==2)=true from rfl,cond_false,cond_true,hu,bi_some,show getZ [x.t] 0=some x.t from rfl,bi_some,hK,cond_false,bi_some,show getZ [x.t] 0=some x.t from rfl,bi_some,t1,bi_some,Kdq (by simp;omega),bi_some,Kdq (by simp;omega),bi_some]
     simp
    simp only[Kwu,hu,bi_some]
    simp only[rangeF]
    rw[t2,bi_some]
    simp only[hK2,show((2:Int)==2)=true from rfl,show((2:Int)==1)=false from rfl]
    rw[show((x.t.Kind:Int) != 2)=true by simp[bne,hK]]
    simp only[Bool.and_true,Bool.true_or,cond_true,cond_false]
    rw[Kdq (by simp;omega),bi_some,Kdq (by simp;omega),bi_some,bi_some,Ktx (by simp),bi_some,bi_some]
    try rw[bi_some]
    rw[show getZ ([]++[[40]++t++[41]]:List Str) 0=some ([40]++t++[41]) from rfl,bi_some,Kdq (by simp;omega),bi_some]
    simp
  | @grp kd nm o v l hkd hl hx=>
   simp only[CC.dp] at hd
   have hwl:(CC.mk kd nm o v l).tw=CC.tws l:=by
    cases l with
    | nil=>exact absurd rfl hl
    | cons c r=>simp[CC.tw]
   rw[hwl] at hw ⊢
   have hu:unK d_api_Cond 11 (CC.mk kd nm o v l).t.Kids=some (l.map CC.t):=Kab (.mk kd nm o v l)
   have n1:((kd:Int)==1)=false:=by rcases hkd with rfl | rfl<;>rfl
   have n2:((kd:Int)==2)=false:=by rcases hkd with rfl | rfl<;>rfl
   obtain⟨s,s',h1,h2,h3,h4,h5⟩:=Kuf
    (f:=fun (i41:Nat) (x43:Kur) (s42:List Str)=>bi (Kwb k x43) fun y52=>bi (bif (((kd:Int)==3)&&((x43.Kind:Int)==4)) then(bi (catZ [40] y52) fun y57=>bi (catZ y57 [41]) fun y59=>some y59) else(some y52)) fun q54=>bi (apd s42 [q54]) fun y62=>some y62)
    (g:=fun (i3:Nat) (x5:Kur) (s4:List Str)=>bi (Kwu k x5) fun y14=>bi (bif ((((kd:Int)==2)&&((x5.Kind:Int) != 2))||(((kd:Int)==3)&&((x5.Kind:Int)==4))) then(bi (catZ [40] y14) fun y19=>bi (catZ y19 [41]) fun y21=>some y21) else(some y14)) fun q16=>bi (apd s4 [q16]) fun y24=>some y24)
    (l.map CC.t) (fun i (s t:List Str)=>s=t∧s.length=i∧Lib.lens s+8 * i≤5 * CC.tws (l.take i)) (by
     intro i x s t hi ⟨e0,e1,e2⟩
     subst e0
     obtain⟨c,hc,rfl⟩:∃ c,l[i]?=some c∧c.t=x:=by simpa using hi
     have hlt:=(gEs.1 hc).1
     have hmem:=mOg hc
     have ht:l.take (i+1)=l.take i++[c]:=by rw[List.take_add_one,hc];rfl
     have hsum:CC.tws l=CC.tws (l.take (i+1))+CC.tws (l.drop (i+1)):=by rw[←Kaw,List.take_append_drop]
     rw[ht,Kaw] at hsum
     rw[ht,Kaw]
     simp only[CC.tws] at hsum ⊢
     have hil:i≤CC.tws (l.take i):=by
      have hgen:∀ z:List CC,z.length≤CC.tws z:=fun z=>by
       induction z with
       | nil=>simp
       | cons c r ih=>simp only[List.length_cons,CC.tws];omega
      have:=hgen (l.take i)
      rw[List.length_take] at this
      omega
     obtain⟨t,t1,t2,t3⟩:=Kbs n k c (hx c hmem) (by have:=Kac l c hmem;omega) (by omega) (by omega)
     cases hb:(((kd:Int)==3)&&((c.t.Kind:Int)==4)) with
     | true=>
      refine⟨s++[[40]++t++[41]],s++[[40]++t++[41]],?_,?_,rfl,by simp[e1],?_⟩
      ·rw[t1,bi_some,cond_true,Kdq (by simp;omega),bi_some,Kdq (by simp;omega),bi_some,bi_some,Ktx (by simp;omega),bi_some]
      ·rw[t2,bi_some,n2,Bool.false_and,Bool.false_or,cond_true,Kdq (by simp;omega),bi_some,Kdq (by simp;omega),bi_some,bi_some,Ktx (by simp;omega),bi_some]
      rw[Kay,Kaz]
      simp
      omega
     | false=>
      refine⟨s++[t],s++[t],?_,?_,rfl,by simp[e1],?_⟩
      ·rw[t1,bi_some,cond_false,bi_some,Ktx (by simp;omega),bi_some]
      ·rw[t2,bi_some,n2,Bool.false_and,Bool.false_or,cond_false,bi_some,Ktx (by simp;omega),bi_some]
      rw[Kay,Kaz]
      omega) (l.map CC.t) 0 [] [] rfl ⟨rfl,rfl,by simp[Lib.lens]⟩
   subst h3
   simp only[List.length_map,Nat.zero_add,List.take_length] at h4 h5
   have hne:s≠[]:=by
    intro h
    rw[h] at h4
    exact hl (List.length_eq_zero_iff.1 h4.symm)
   have hpos:1≤l.length:=List.length_pos_iff.2 hl
   have join_tot:∀ sep:Str,sep.length=4→Kqy s sep=some (Lib.join s sep)∧(Lib.join s sep).length≤5 * CC.tws l:=fun sep hs=>by
    have hj:(Lib.join s sep).length≤5 * CC.tws l:=by
     obtain⟨y,s',rfl⟩:=List.exists_cons_of_ne_nil hne
     rw[Lib.join_length,hs]
     simp only[List.length_cons] at h4
     omega
    refine⟨?_,hj⟩
    unfold Kqy
    rw[Nat.ble_eq_true_of_le (show s.length≤4294967296 by omega),Nat.ble_eq_true_of_le (show(Lib.join s sep).length≤1099511627776 by omega)]
    rfl
   have hP:∀ r,(bif (kd:Int)==3 then(bi (Kqy s [32,38,38,32]) fun y65=>some y65) else(bi (Kqy s [32,124,124,32]) fun y68=>some y68))=some r→Kwb (k+1) (CC.mk kd nm o v l).t=some r:=fun r hr=>by
    simp only[Kwb]
    show(bif (kd:Int)==1 then _ else(bif (kd:Int)==2 then _ else _))=_
    rw[n1,n2,cond_false,cond_false,hu,bi_some]
    refine(Kdt h1).trans ?_
    exact hr
   have hR:∀ r,(bif (kd:Int)==3 then(bi (Kqy s [32,38,38,32]) fun y65=>some y65) else(bi (Kqy s [32,124,124,32]) fun y68=>some y68))=some r→Kwu (k+1) (CC.mk kd nm o v l).t=some r:=fun r hr=>by
    simp only[Kwu,hu,bi_some]
    refine(Kdt h2).trans ?_
    show(bif (kd:Int)==1 then _ else(bif (kd:Int)==2 then _ else _))=_
    rw[n1,n2,cond_false,cond_false]
    exact hr
   rcases hkd with rfl | rfl
   ·obtain⟨j1,j2⟩:=join_tot [32,38,38,32] rfl
    refine⟨_,hP _ ?_,hR _ ?_,j2⟩<;>(rw[show((3:Int)==3)=true from rfl,cond_true,j1,bi_some])
   obtain⟨j1,j2⟩:=join_tot [32,124,124,32] rfl
   refine⟨_,hP _ ?_,hR _ ?_,j2⟩<;>(rw[show((4:Int)==3)=false from rfl,cond_false,j1,bi_some])
end Go.Gk
