import Derived.Test.YtmecneoeklldeaaGreatDoorCKNames
set_option linter.all false
set_option maxRecDepth 100000
namespace Go.Gk
theorem Kbt(k:Nat)(hk:80000<k):Kxs k=some true:=by
 obtain⟨k,rfl⟩:∃ m,k=m+20:=⟨k - 20,by omega⟩
 rfl
theorem Kbu(A:List Str):Kwz A A=some true:=by
 unfold Kwz
 rw[show(((A.length:Int):Int) != (A.length:Int))=false by simp,cond_false]
 have key:∀ (L:List Str) (i:Nat),(∀ (j:Nat) (x:Str),L[j]?=some x→A[i+j]?=some x)→rangeM (σ:=Unit) (ρ:=Bool) (fun i3 x5 s4=>bi (getZ A (i3:Int)) fun x14=>bif !((x5:Str)==x14) then(bi (some false) fun v=>some (.out v)) else(some (.go ()))) i L ()=some (.go ()):=by
  intro L
  induction L with
  | nil=>intro i _;rfl
  | cons x L ih=>
   intro i h
   have h0:=h 0 x rfl
   rw[Nat.add_zero] at h0
   have hx:(fun (i3:Nat) (x5:Str) (s4:Unit)=>bi (getZ A (i3:Int)) fun x14=>bif !((x5:Str)==x14) then(bi (some false) fun v=>some (LS.out (σ:=Unit) v)) else(some (.go ()))) i x ()=some (.go ()):=by
    simp only
    rw[Kuh h0,bi_some]
    simp
   simp only[rangeM]
   simp only at hx
   rw[hx]
   exact ih (i+1) fun j y hy=>by
    have:=h (j+1) y (by simpa using hy)
    rw[show i+1+j=i+(j+1) by omega]
    exact this
 rw[key A 0 (fun j x hx=>by rw[Nat.zero_add];exact hx)]
 rfl
theorem Kbv{k:Nat}{c:Kur}(h:Kvw k c=some 0):Kvv k c=some 0:=by
 unfold Kvw at h
 obtain⟨y,hy,h⟩:=Khf h
 cases hb:((decide ((y.1:Int)>100))||(decide ((y.2:Int)>30))) with
 | true=>rw[hb] at h;cases h
 | false=>
  rw[hb,cond_false] at h
  obtain⟨e,he,h⟩:=Khf h
  cases h
  exact he
theorem Kbw:∀ (L:List CC) (m:List (Str×Bool)),(L.foldl putN m).length≤m.length+L.length
 | [],m=>by simp
 | c :: L,m=>by
  have h1:=Kbw L (putN m c)
  have h2:(putN m c).length≤m.length+1:=by
   unfold putN mSet
   split
   ·rw[List.length_set];omega
   rw[(Klq _ _ m).length_eq];simp
  simp only[List.foldl_cons,List.length_cons]
  omega
theorem CondsChecked_true(l:List Int)(hl:l.length≤9223372036854775807):Kxt 200000 l=some true:=by
 have key:Ok (Kxt 200000 l) fun r=>r=true:=by
  unfold Kxt
  have t0:At l 0 0 (⟨l,0⟩:Kup):=⟨rfl,Int.le_refl _,Int.le_refl _⟩
  refine Kdw (Kcm hl t0 (by omega) (by omega) (by decide)) fun y1 ⟨c,c1,c2,c3,c4,c5⟩=>?_
  rw[c1]
  obtain⟨e,p1,r1⟩:=Kav 200000 c c2 (by omega)
  by_cases he:e=0
  ·subst he
   have hOK:=Kbr 40 200000 c c2 c3 (by omega) (Kbv p1)
   obtain⟨t,t1,t2,t3⟩:=Kbs 40 200000 c hOK c3 (by omega) (by omega)
   have hlf:=Kbz c
   have hn1:=Kby 40 200000 c [] hOK c3 (by omega)
   have hc1:=Kbx 40 200000 c hOK c3 (by omega) (by omega)
   obtain⟨k1,k2⟩:=Kcc c.lf [] SM.nil
   have hP:Kwc 200000 c.t=some (if (t.length:Int)>5000 then([],2) else(t,0)):=by
    unfold Kwc
    rw[p1,bi_some,show(((0:Int) != 0):Bool)=false from rfl,cond_false,t1,bi_some]
    by_cases h5:(t.length:Int)>5000
    ·rw[dT h5,if_pos h5];rfl
    rw[dF h5,if_neg h5];rfl
   have hR:Kwv 200000 c.t=some (if (t.length:Int)>5000 then([],2) else(t,0)):=by
    unfold Kwv
    rw[r1,bi_some,show(((0:Int) != 0):Bool)=false from rfl,cond_false,t2,bi_some]
    by_cases h5:(t.length:Int)>5000
    ·rw[dT h5,if_pos h5];rfl
    rw[dF h5,if_neg h5];rfl
   have hkeys:∀ k,k∈(c.lf.foldl putN []).map (·.1) ↔ k∈c.lf.map fun x=>x.t.Name:=fun k=>by rw[k2 k];simp
   have hrise:=Kcd _ k1 _ hkeys
   have hlen:(c.lf.foldl putN []).length≤4294967296:=by
    have:=Kbw c.lf []
    simp only[List.length_nil] at this
    omega
   have hall:(c.lf.foldl putN []).all (fun e=>decide (e.1.length≤4294967296))=true:=lAe.2 fun x hx=>by
    have:=(hkeys x.1).1 (List.mem_map_of_mem hx)
    obtain⟨y,hy,e⟩:=List.mem_map.1 this
    have:=Kcb 40 c hOK c3 y hy
    rw[←e]
    exact dT (by omega)
   have hN:Kwe 200000 c.t=some (rise (c.lf.map fun x=>x.t.Name),0):=by
    unfold Kwe
    rw[p1,bi_some,show(((0:Int) != 0):Bool)=false from rfl,cond_false,hn1,bi_some,dT hlen,hall,hrise]
    rfl
   have hM:Kwy 200000 c.t=some (rise (c.lf.map fun x=>x.t.Name)):=by
    unfold Kwy
    rw[hc1,bi_some]
    have hr:∀ (L:List CC) (i:Nat) (acc:List Str),acc.length+L.length≤1000000→rangeF (σ:=List Str) (fun i3 x5 s4=>bi (apd s4 [x5.Name]) fun y14=>some y14) i (L.map CC.t) acc=some (acc++L.map fun x=>x.t.Name):=fun L=>by
     induction L with
     | nil=>intro i acc _;simp[rangeF]
     | cons x L ih=>
      intro i acc h
      simp only[List.length_cons] at h
      simp only[List.map_cons,rangeF]
      rw[Ktx (by simp;omega),bi_some,bi_some,ih (i+1) _ (by simp;omega)]
      simp
    rw[hr c.lf 0 [] (by simp;omega),bi_some,List.nil_append]
    obtain⟨s1,s2⟩:=Kbo 200000 (c.lf.map fun x=>x.t.Name) (by rw[List.length_map];omega) (by rw[List.length_map];omega)
    rw[s1,bi_some,dT (by rw[List.length_mergeSort])]
    show bi (Kwx 200000 _) _=_
    rw[s2,bi_some]
   refine Kdx hP (Kdx hN (Kdx r1 (Kdx p1 ?_)))
   simp only[bne_self_eq_false,Bool.or_self,cond_false]
   refine Kdx hR ?_
   simp only[BEq.rfl,Bool.and_self,cond_true,cond_false]
   rw[hM]
   simp only[bi_some]
   rw[Kbu]
   simp only[bi_some,cond_true]
   rw[Kbt 200000 (by decide)]
   exact Kdv rfl
  have hb:((e:Int) != 0)=true:=by simpa using he
  have hP:Kwc 200000 c.t=some ([],e):=by
   unfold Kwc
   rw[p1,bi_some,hb];rfl
  have hR:Kwv 200000 c.t=some ([],e):=by
   unfold Kwv
   rw[r1,bi_some,hb];rfl
  have hN:Kwe 200000 c.t=some ([],e):=by
   unfold Kwe
   rw[p1,bi_some,hb];rfl
  refine Kdx hP (Kdx hN (Kdx r1 (Kdx p1 ?_)))
  simp only[bne_self_eq_false,Bool.or_self,cond_false]
  refine Kdx hR ?_
  simp only[BEq.rfl,Bool.and_self,cond_true,hb,bi_some]
  rw[Kbt 200000 (by decide)]
  exact Kdv rfl
 obtain⟨r,h,rfl⟩:=key
 exact h
end Go.Gk
