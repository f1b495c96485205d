import Derived.Test.YtmecneoeklldeaaGreatDoorCText
set_option linter.all false
set_option maxRecDepth 100000
namespace Go.Gk
mutual
def CC.tw:CC→Nat
 | .mk _ _ _ _ l=>(if l.isEmpty then 64 else 0)+CC.tws l
def CC.tws:List CC→Nat
 | []=>0
 | c :: r=>c.tw+10+CC.tws r
end
theorem Kaw:∀ a b:List CC,CC.tws (a++b)=CC.tws a+CC.tws b
 | [],b=>by simp[CC.tws]
 | c :: r,b=>by simp only[List.cons_append,CC.tws,Kaw r b];omega
theorem Kax:∀ a b:List CC,CC.dps (a++b)=max (CC.dps a) (CC.dps b)
 | [],b=>by simp[CC.dps]
 | c :: r,b=>by simp only[List.cons_append,CC.dps,Kax r b];omega
inductive RC:CC→Prop
 | leaf {n o:Str} {v:Kuq} (hn:n.length≤10) (ho:o.length≤10) (hv:RV v):RC (.mk 1 n o v [])
 | node {k:Int} {l:List CC} (hk:k=2∨k=3∨k=4) (hl:l≠[]) (h:∀ x∈l,RC x):RC (.mk k [] [] zA l)
theorem Kay(a b:List Str):Lib.lens (a++b)=Lib.lens a+Lib.lens b:=by simp[Lib.lens]
theorem Kaz(a:Str):Lib.lens [a]=a.length:=by simp[Lib.lens]
theorem Kba{l:List Int}{a b:Int}{s:Kup}(h:At l a b s)(n:Int)(hl:l.length≤9223372036854775807)(h0:0≤a)(h1:b<4611686018427387904)(hn:1≤n)(hn2:n≤4611686018427387904) :
  Ok (Kuw s n) fun r=>0≤r.1∧r.1<n∧At l (a+1) (b+1) r.2:=by
 obtain⟨e1,e2,e3⟩:=h
 obtain⟨c,c0,c1,hc⟩:=Ktt l s.v_at n hl (by omega) (by omega) hn hn2
 rw[←e1] at hc
 exact⟨_,hc,c0,c1,e1,by simp only;omega,by simp only;omega⟩
def RD(l:List Int)(b:Int)(m W:Nat)(r:Kur×Kup):Prop:=∃ c:CC,r.1=c.t∧RC c∧c.dp≤m∧c.tw≤W∧At l 0 b r.2
theorem Kbb{l:List Int}{b b':Int}(hb:b'≤b){n o:Str}{v:Kuq}(hn:n.length≤10)(ho:o.length≤10)(hv:RV v){a:Int}(ha:0≤a){s:Kup}(hs:At l a b' s)(m:Nat)(hm:1≤m){W:Nat}(hW:64≤W) :
  Ok (some ((⟨1,n,o,v,(pk Kus ([]:List Kur))⟩:Kur),s)) (RD l b m W):=
 Kdv ⟨.mk 1 n o v [],by simp only[CC.t,CC.ts],.leaf hn ho hv,by simp[CC.dp,CC.dps];omega,by simp[CC.tw,CC.tws];omega,hs.up ha hb⟩
def BW:Nat→Nat
 | 0=>64
 | m+1=>3 * (BW m+10)
def BD:Nat→Nat
 | 0=>10
 | m+1=>20+3 * BD m
theorem Kbc:∀ m,64≤BW m
 | 0=>by simp[BW]
 | m+1=>by have:=Kbc m;simp only[BW];omega
theorem Kbd:∀ m,10≤BD m
 | 0=>by simp[BD]
 | m+1=>by have:=Kbd m;simp only[BD];omega
theorem Kbe{o:Str}(h:o∈([[61,61],[33,61],[60],[60,61],[62],[62,61]]:List Str)):o.length≤10:=by
 have:∀ o∈([[61,61],[33,61],[60],[60,61],[62],[62,61]]:List Str),o.length≤10:=by decide
 exact this o h
theorem Kbf:Kva=some [[61,61],[33,61],[60],[60,61],[62],[62,61]]:=rfl
theorem Kbg{l:List Int}(hl:l.length≤9223372036854775807):∀ (m:Nat) (k:Nat) (b:Int) (s:Kup),m≤5→m<k→0≤b→b+BD m<4000000000000000000→At l 0 b s→
  Ok (Kvb k s (m:Int)) (RD l (b+BD m) (m+1) (BW m))
 | m,0,b,s,_,h,_,_,_=>by omega
 | m,k+1,b,s,hm,hk,hb0,hb,hs=>by
  have hBW:=Kbc m
  have hBD:=Kbd m
  simp only[Kvb]
  refine Kdw (P:=fun q:Kup×Bool=>(m=0→q.2=true)∧At l 0 (b+1) q.1) ?_ ?_
  ·refine Kdz (fun h=>Kdv ⟨fun _=>rfl,hs.up (by omega) (by omega)⟩) (fun h=>?_)
   refine Kdw (Ked hs 3 hl (by omega) (by omega) (by decide) (by decide)) fun r hr=>Kdv ⟨fun h0=>?_,hr.up (by omega) (by omega)⟩
   subst h0
   cases h
  ·intro q ⟨q1,q2⟩
   refine Kdz (fun _=>?_) (fun hq=>?_)
   ·refine Kdw (Kba q2 4 hl (by omega) (by omega) (by decide) (by decide)) fun y8 ⟨_,_,y8s⟩=>?_
    refine Kdz (fun _=>?_) (fun _=>Kdz (fun _=>?_) (fun _=>Kdz (fun _=>?_) (fun _=>?_)))
    ·refine Kdw (Kef y8s _ hl (by omega) (by omega) (by decide) (by decide)) fun y11 ⟨y11m,y11s⟩=>?_
     refine Kdw (Kba y11s 2 hl (by omega) (by omega) (by decide) (by decide)) fun y13 ⟨n0,n1,y13s⟩=>?_
     refine Kbb (by omega) (by decide) ?_ (.bool _ ⟨n0,n1⟩) (by omega) y13s _ (by omega) hBW
     have:∀ o∈([[61,61],[61,61],[33,61]]:List Str),o.length≤10:=by decide
     exact this _ y11m
    ·rw[Kbf,bi_some]
     refine Kdw (Kef y8s _ hl (by omega) (by omega) (by decide) (by decide)) fun y11 ⟨y11m,y11s⟩=>?_
     refine Kdw (Kee y11s _ hl (by omega) (by omega) (by decide) (by decide)) fun y13 ⟨n0,y13s⟩=>?_
     exact Kbb (by omega) (by decide) (Kbe y11m) (.ver _ n0) (by omega) y13s _ (by omega) hBW
    ·refine Kdw (Kef y8s _ hl (by omega) (by omega) (by decide) (by decide)) fun y9 ⟨y9m,y9s⟩=>?_
     rw[Kbf,bi_some]
     refine Kdw (Kef y9s _ hl (by omega) (by omega) (by decide) (by decide)) fun y11 ⟨y11m,y11s⟩=>?_
     refine Kdw (Kee y11s _ hl (by omega) (by omega) (by decide) (by decide)) fun y13 ⟨n0,y13s⟩=>?_
     refine Kbb (by omega) ?_ (Kbe y11m) (.num _ n0) (by omega) y13s _ (by omega) hBW
     have:∀ o∈([[115,105,122,101],[111,115]]:List Str),o.length≤10:=by decide
     exact this _ y9m
    ·rw[Kbf,bi_some]
     refine Kdw (Kef y8s _ hl (by omega) (by omega) (by decide) (by decide)) fun y11 ⟨y11m,y11s⟩=>?_
     refine Kdw (Kef y11s _ hl (by omega) (by omega) (by decide) (by decide)) fun y13 ⟨n0,y13s⟩=>?_
     exact Kbb (by omega) (by decide) (Kbe y11m) (.words _ n0) (by omega) y13s _ (by omega) hBW
   ·obtain⟨m,rfl⟩:∃ n,m=n+1:=by
     cases m with
     | zero=>rw[q1 rfl] at hq;cases hq
     | succ n=>exact⟨n,rfl⟩
    simp only[BD] at hb hBD
    refine Kdw (Kee q2 _ hl (by omega) (by omega) (by decide) (by decide)) fun y41 ⟨y41m,y41s⟩=>?_
    refine Kdw (P:=fun q:Kup×Int=>(1≤q.2∧q.2≤3)∧At l 0 (b+3) q.1) ?_ ?_
    ·refine Kdz (fun _=>?_) (fun _=>Kdv ⟨by simp only;omega,y41s.up (by omega) (by omega)⟩)
     refine Kdw (Kee y41s _ hl (by omega) (by omega) (by decide) (by decide)) fun y46 ⟨n0,y46s⟩=>Kdv ⟨?_,y46s.up (by omega) (by omega)⟩
     simp only[List.mem_cons,List.not_mem_nil,or_false] at n0
     simp only
     omega
    ·intro q43 ⟨⟨g1,g2⟩,g3⟩
     have hkk:(y41.1:Int)=2∨(y41.1:Int)=3∨(y41.1:Int)=4:=by simpa using y41m
     refine Kdw (P:=fun r:Kup×List Kur=>∃ L:List CC,r.2=L.map CC.t∧L≠[]∧(∀ x∈L,RC x)∧CC.dps L≤m+1∧CC.tws L≤3 * (BW m+10)∧At l 0 (b+3+3 * BD m) r.1) ?_ ?_
     ·refine Kea (dT (by omega)) ?_
      refine Kdy (Keb (fun i (r:Kup×List Kur)=>∃ L:List CC,r.2=L.map CC.t∧(1≤i→L≠[])∧(∀ x∈L,RC x)∧CC.dps L≤m+1∧CC.tws L≤i * (BW m+10)∧L.length≤CC.tws L∧At l 0 (b+3+(i:Nat) * BD m) r.1)
       ⟨[],rfl,by omega,by simp,by simp[CC.dps],by simp[CC.tws],by simp,by simpa using g3⟩ ?_) ?_
      ·intro i r hi ⟨L,e1,e2,e3,e4,e5,e6,e7⟩
       have hi3:i≤2:=by omega
       have hib:i * BD m≤2 * BD m:=Nat.mul_le_mul_right _ hi3
       have hiw:i * (BW m+10)≤2 * (BW m+10):=Nat.mul_le_mul_right _ hi3
       have hW5:BW m≤100000:=by
        have:∀ m≤5,BW m≤100000:=by decide
        exact this m (by omega)
       rw[show wi (((m+1:Nat):Int) - 1)=(m:Int) by rw[Ktr (by omega) (by omega)];omega]
       refine Kdw (Kbg hl m k (b+3+(i:Nat) * BD m) r.1 (by omega) (by omega) (by omega) (by omega) e7) fun x ⟨c,c1,c2,c3,c4,c5⟩=>?_
       have hstep:b+3+(i:Nat) * BD m+BD m=b+3+((i+1:Nat):Int) * BD m:=by
        rw[Int.natCast_add,Int.add_mul];omega
       have hstepw:(i+1) * (BW m+10)=i * (BW m+10)+(BW m+10):=by rw[Nat.add_mul,Nat.one_mul]
       rw[hstep] at c5
       rw[c1,e1,Kab]
       refine Kdz (fun hkd=>?_) (fun _=>?_)
       ·rw[bi_some]
        cases c2 with
        | leaf hn ho hv=>
         exfalso
         rw[Bool.and_eq_true] at hkd
         have:=eq_of_beq hkd.1
         simp only[CC.t] at this
         omega
        | @node kd l' hkd' hl' hx=>
         have htw:(CC.mk kd [] [] zA l').tw=CC.tws l':=by
          cases l' with
          | nil=>exact absurd rfl hl'
          | cons c r=>simp[CC.tw]
         rw[htw] at c4
         have hll:∀ z:List CC,z.length≤CC.tws z:=fun z=>by
          induction z with
          | nil=>simp
          | cons c r ih=>simp only[List.length_cons,CC.tws];omega
         have hlz:=hll l'
         simp only[CC.kids]
         rw[Ktx (by simp only[List.length_map];omega),bi_some,←List.map_append]
         simp only[CC.dp] at c3
         exact Kdv ⟨L++l',rfl,by simp[hl'],fun x hx'=>(List.mem_append.1 hx').elim (e3 x) (hx x),by rw[Kax];omega,by rw[Kaw];omega,by rw[Kaw,List.length_append];omega,c5⟩
       ·rw[Ktx (by simp only[List.length_map,List.length_singleton];omega),bi_some,show([c.t]:List Kur)=[c].map CC.t from rfl,←List.map_append]
        exact Kdv ⟨L++[c],rfl,by simp,fun x hx'=>(List.mem_append.1 hx').elim (e3 x) (fun h=>List.mem_singleton.1 h▸c2),by rw[Kax];simp only[CC.dps];omega,by rw[Kaw];simp only[CC.tws];omega,by rw[Kaw,List.length_append];simp only[CC.tws,List.length_singleton];omega,c5⟩
      ·intro r ⟨L,e1,e2,e3,e4,e5,e6,e7⟩
       have hi3:q43.2.toNat≤3:=by omega
       have hib:q43.2.toNat * BD m≤3 * BD m:=Nat.mul_le_mul_right _ hi3
       have hiw:q43.2.toNat * (BW m+10)≤3 * (BW m+10):=Nat.mul_le_mul_right _ hi3
       have hcast:((q43.2.toNat:Nat):Int) * (BD m:Int)=((q43.2.toNat * BD m:Nat):Int):=by rw[Int.natCast_mul]
       rw[hcast] at e7
       exact⟨L,e1,e2 (by omega),e3,e4,by omega,e7.up (by omega) (by omega)⟩
     ·intro r ⟨L,e1,e2,e3,e4,e5,e7⟩
      refine Kdv ⟨.mk y41.1 [] [] zA L,?_,.node hkk e2 e3,by simp only[CC.dp];omega,?_,e7.up (by omega) (by simp only[BD];omega)⟩
      ·rw[e1,←Kaa]
       simp only[CC.t]
       exact(by rfl)
      ·simp only[CC.tw,BW]
       rw[show L.isEmpty=false by cases L with | nil=>exact absurd rfl e2 | cons _ _=>rfl]
       simp only[Bool.false_eq_true,if_false]
       omega
end Go.Gk
