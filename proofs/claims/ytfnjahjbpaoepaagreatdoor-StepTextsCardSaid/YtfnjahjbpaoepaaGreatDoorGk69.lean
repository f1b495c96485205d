import Derived.Test.YtfnjahjbpaoepaaGreatDoorGk52
set_option linter.all false
namespace Go.Gk
def bitM(m j:Nat):Bool:=!(Nat.beq (Nat.land (Nat.shiftRight m j) 1) 0)
theorem Kop(m j:Nat):bitM m j=m.testBit j:=by
 have:Nat.land (Nat.shiftRight m j) 1=1&&& (m >>> j):=Nat.and_comm _ _
 unfold bitM Nat.testBit
 rw[this]
 cases h:(1&&& (m >>> j))<;>rfl
def depL(es:List Edge):Nat:=es.foldr (fun e s=>bif Region.binds .any e then Nat.lor (Nat.pow 2 e.on) s else s) 0
def dmOf(ops:Array Oper):List (Nat×Nat):=(List.range ops.size).map fun i=>(i,match ops[i]? with
 | some o=>depL o.after.toList
 | none=>0)
def readyM(dm:List (Nat×Nat))(m:Nat):List Nat:=(dm.filter fun x=>!bitM m x.1&&Nat.beq (Nat.land x.2 m) x.2).map (·.1)
def freeM(ops:Array Oper)(dm:List (Nat×Nat))(m i:Nat):Bool:=match ops[i]? with
 | none=>false
 | some oi=>dm.all fun x=>Nat.beq x.1 i||bitM m x.1||match ops[x.1]? with
   | some oj=>bitM x.2 i||oi.apart ops oj
   | none=>true
def anyM(Γ:TypeId→Option TI)(N:Nat)(hpL:List Ob)(ll hl:List Nat)(bx:List (Nat×List Nat))(sps:List Spec)(ops:Array Oper)(dm:List (Nat×Nat)):Nat→Nat→Fr→List Ob→List LogE→Option (List (Fr×List Ob×List LogE))
 | 0,m,fr,hp,lg=>match readyM dm m with
  | []=>some [(fr,hp,lg)]
  | _ :: _=>none
 | fuel+1,m,fr,hp,lg=>match readyM dm m with
  | []=>some [(fr,hp,lg)]
  | i0 :: r=>match (i0 :: r).find? fun i=>!(inL hl i) with
   | some i=>match ops[i]? with
    | none=>none
    | some o=>bif freeM ops dm m i then match lstC Γ N hpL ll bx sps ops i fr hp lg o with
     | some s=>anyM Γ N hpL ll hl bx sps ops dm fuel (Nat.lor m (Nat.pow 2 i)) s.1 hp s.2
     | none=>none
     else none
   | none=>ocat (fun i=>match ops[i]? with
     | none=>none
     | some o=>match hstC Γ N hpL sps ops i fr hp lg o with
      | some s=>anyM Γ N hpL ll hl bx sps ops dm fuel (Nat.lor m (Nat.pow 2 i)) s.1 s.2.1 s.2.2
      | none=>none) (i0 :: r)
structure RepM(ops:Array Oper)(m:Nat)(listed:Array Bool):Prop where
 size:listed.size=ops.size
 get:∀ j,listed.getD j false=bitM m j
theorem Koq(m i j:Nat):bitM (Nat.lor m (Nat.pow 2 i)) j=(bitM m j||decide (i=j)):=by
 rw[Kop,Kop]
 show(m||| 2 ^ i).testBit j=_
 rw[Nat.testBit_or,Nat.testBit_two_pow]
theorem Kor(m:Nat):∀ es:List Edge,Nat.beq (Nat.land (depL es) m) (depL es)=es.all fun e=>!Region.binds .any e||bitM m e.on
 | []=>by
  have:Nat.land 0 m=0:=Nat.zero_and m
  show Nat.beq (Nat.land 0 m) 0=true
  rw[this]
  rfl
 | e :: es=>by
  have ih:=Kor m es
  rw[List.all_cons,←ih]
  show Nat.beq (Nat.land (bif Region.binds .any e then Nat.lor (Nat.pow 2 e.on) (depL es) else depL es) m) (bif Region.binds .any e then Nat.lor (Nat.pow 2 e.on) (depL es) else depL es)=_
  cases hb:Region.binds .any e with
  | false=>rfl
  | true=>
   simp only[cond_true,Bool.not_true,Bool.false_or]
   rw[Bool.eq_iff_iff,Bool.and_eq_true]
   rw[show ∀ a b:Nat,(Nat.beq a b=true ↔ a=b) from fun a b=>⟨nEq,fun h=>h▸Nat.beq_refl a⟩,show ∀ a b:Nat,(Nat.beq a b=true ↔ a=b) from fun a b=>⟨nEq,fun h=>h▸Nat.beq_refl a⟩,Kop]
   show((2 ^ e.on||| depL es)&&& m=2 ^ e.on||| depL es) ↔ (m.testBit e.on=true∧depL es&&& m=depL es)
   constructor
   ·intro h
    have key:∀ j,((2 ^ e.on||| depL es)&&& m).testBit j=(2 ^ e.on||| depL es).testBit j:=fun j=>by rw[h]
    refine⟨?_,Nat.eq_of_testBit_eq fun j=>?_⟩
    ·have:=key e.on
     simpa [Nat.testBit_and,Nat.testBit_or,Nat.testBit_two_pow] using this
    have:=key j
    simp only[Nat.testBit_and,Nat.testBit_or,Nat.testBit_two_pow] at this ⊢
    revert this
    cases (depL es).testBit j<;>cases m.testBit j<;>simp
   rintro⟨h1,h2⟩
   refine Nat.eq_of_testBit_eq fun j=>?_
   have key:(depL es&&& m).testBit j=(depL es).testBit j:=by rw[h2]
   simp only[Nat.testBit_and,Nat.testBit_or,Nat.testBit_two_pow] at key ⊢
   rcases Nat.decEq e.on j with h | h
   ·simp only[h,decide_false,Bool.false_or]
    exact key
   subst h
   simp[h1]
theorem Kos(i:Nat):∀ es:List Edge,bitM (depL es) i=es.any fun e=>Region.binds .any e&&e.on==i
 | []=>by rw[Kop];simp[depL]
 | e :: es=>by
  have ih:=Kos i es
  rw[List.any_cons,←ih]
  show bitM (bif Region.binds .any e then Nat.lor (Nat.pow 2 e.on) (depL es) else depL es) i=_
  cases hb:Region.binds .any e with
  | false=>simp
  | true=>
   rw[cond_true,Kop,Kop]
   show(2 ^ e.on||| depL es).testBit i=_
   rw[Nat.testBit_or,Nat.testBit_two_pow]
   by_cases h:e.on=i<;>simp[h]
theorem Kot{ops:Array Oper}{m:Nat}{listed:Array Bool}(h:RepM ops m listed){j:Nat}(hj:j<ops.size):listed.getD j true=bitM m j:=by
 rw[←h.get j]
 have:j<listed.size:=h.size▸hj
 simp[Array.getD,this]
theorem Kou{ops:Array Oper}{m:Nat}{listed:Array Bool}(h:RepM ops m listed):readyM (dmOf ops) m=Region.ready .any ops listed:=by
 unfold readyM dmOf Region.ready
 rw[List.filter_map,List.map_map]
 rw[show((fun x:Nat×Nat=>x.1) ∘ fun i=>(i,match ops[i]? with
  | some o=>depL o.after.toList
  | none=>0))=id from rfl,List.map_id]
 refine List.filter_congr fun i hi=>?_
 have hi':=List.mem_range.1 hi
 have ho:=Array.getElem?_eq_getElem hi'
 simp only[Function.comp_apply,ho,Option.map_some,Option.getD_some]
 rw[Kot h hi',Kor,←Array.all_toList]
 congr 2
 funext e
 rw[h.get]
theorem Kov{ops:Array Oper}{m:Nat}{listed:Array Bool}(h:RepM ops m listed)(i:Nat):freeM ops (dmOf ops) m i=Region.free .any ops listed i:=by
 unfold freeM Region.free dmOf
 cases hi:ops[i]? with
 | none=>rfl
 | some oi=>
  simp only[List.all_map]
  rw[Bool.eq_iff_iff,lAe,lAe]
  refine forall_congr' fun j=>forall_congr' fun hj=>?_
  have hj':=List.mem_range.1 hj
  rw[←Bool.eq_iff_iff]
  simp only[Function.comp]
  rw[Kot h hj',Array.getElem?_eq_getElem hj']
  simp only
  rw[Kos,←Array.any_toList]
  congr 2
  rw[Bool.eq_iff_iff,beq_iff_eq]
  exact⟨nEq,fun e=>e▸Nat.beq_refl j⟩
theorem Kow{ops:Array Oper}{m:Nat}{listed:Array Bool}(h:RepM ops m listed){i:Nat}(hi:i<ops.size):RepM ops (Nat.lor m (Nat.pow 2 i)) (listed.setIfInBounds i true):=by
 refine⟨by simpa using h.size,fun j=>?_⟩
 rw[Koq,←h.get j]
 have hs:i<listed.size:=h.size▸hi
 by_cases hij:i=j
 ·subst hij
  simp[Array.getD,hs]
 rcases Nat.lt_or_ge j listed.size with hj | hj
 ·simp[Array.getD,hj,hij]
 simp[Array.getD,Nat.not_lt.2 hj,hij]
theorem Kox{Γ:TypeId→Option TI}{N:Nat}{hpL:List Ob}{ll hl:List Nat}{bx:List (Nat×List Nat)}{sps:List Spec}{ops:Array Oper}:∀ (fuel m:Nat) (listed:Array Bool) (fr:Fr) (hp:List Ob) (lg:List LogE),RepM ops m listed→anyM Γ N hpL ll hl bx sps ops (dmOf ops) fuel m fr hp lg=anyC Γ N hpL ll hl bx sps ops fuel listed fr hp lg
 | 0,m,listed,fr,hp,lg,h=>by
  unfold anyM anyC
  rw[Kou h]
  cases Region.ready .any ops listed<;>rfl
 | fuel+1,m,listed,fr,hp,lg,h=>by
  unfold anyM anyC
  rw[Kou h]
  have hmem:∀ i∈Region.ready .any ops listed,i<ops.size:=fun i hi=>List.mem_range.1 (List.mem_filter.1 hi).1
  cases hr:Region.ready .any ops listed with
  | nil=>rfl
  | cons i0 r=>
   rw[hr] at hmem
   simp only
   cases hf:(i0 :: r).find? (fun i=>!(inL hl i)) with
   | some i=>
    simp only
    have hi:=hmem i (List.mem_of_find?_eq_some hf)
    rw[Kov h]
    cases ops[i]? with
    | none=>rfl
    | some o=>
     simp only
     cases Region.free .any ops listed i with
     | false=>rfl
     | true=>
      simp only[cond_true]
      cases lstC Γ N hpL ll bx sps ops i fr hp lg o with
      | none=>rfl
      | some s=>exact Kox fuel _ _ _ _ _ (Kow h hi)
   | none=>
    simp only
    have key:∀ l:List Nat,(∀ i∈l,i<ops.size)→ocat (fun i=>match ops[i]? with
      | none=>none
      | some o=>match hstC Γ N hpL sps ops i fr hp lg o with
       | some s=>anyM Γ N hpL ll hl bx sps ops (dmOf ops) fuel (Nat.lor m (Nat.pow 2 i)) s.1 s.2.1 s.2.2
       | none=>none) l=ocat (fun i=>match ops[i]? with
      | none=>none
      | some o=>match hstC Γ N hpL sps ops i fr hp lg o with
       | some s=>anyC Γ N hpL ll hl bx sps ops fuel (listed.setIfInBounds i true) s.1 s.2.1 s.2.2
       | none=>none) l:=fun l=>by
     induction l with
     | nil=>intro _;rfl
     | cons i l ih=>
      intro hl
      have e1:=ih fun j hj=>hl j (mCo _ hj)
      have hi:=hl i mCs
      unfold ocat
      rw[e1]
      cases ops[i]? with
      | none=>rfl
      | some o=>
       simp only
       cases hstC Γ N hpL sps ops i fr hp lg o with
       | none=>rfl
       | some s=>simp only;rw[Kox fuel _ _ s.1 s.2.1 s.2.2 (Kow h hi)]
    exact key _ hmem
section
variable{P:Program}{Γ:TypeId→Option TI}{F N:Nat}{Q:GPost}{fr fr':Fr}{hp hp' hpL:List Ob}{ks:List Kt}{ll hl:List Nat}
theorem Koy(ops:Array Oper):RepM ops 0 (Array.replicate ops.toList.length false):=by
 refine⟨by simp,fun j=>?_⟩
 rw[Kop,Nat.zero_testBit]
 rcases Nat.lt_or_ge j ops.size with hj | hj
 ·simp[Array.getD,hj]
 simp[Array.getD,Nat.not_lt.2 hj]
theorem Koz(hΓ:TOK P Γ){id:Nat}{ops:Array Oper}(hpL:List Ob)(ll hl:List Nat)(bx:List (Nat×List Nat))(sps:List Spec)(n:Nat)(dm:List (Nat×Nat))(fuel:Nat)(p:List Nat×List Nat)(fr0:Fr)(hp0:List Ob)(hm:P.follows .mixedOrders=true)(hD:dmOf ops=dm)(hfu:ops.toList.length=fuel)
  (hR:(anyM Γ N hpL ll hl bx sps ops dm fuel 0 fr hp []).map (fun ls=>leavesN hp.length (fr0.map (·.1)) (ls.map fun s=>(s.1,s.2.1)) (List.replicate n p))=some (List.replicate n (true,fr0.map (fun e=>some e.2),hp0)))
  (hG:(anyM Γ N hpL ll hl bx sps ops dm fuel 0 fr hp []).map (fun ls=>ls.map fun s=>s.2.2.map (·.1))=(anyM Γ N hpL ll hl bx sps ops dm fuel 0 fr hp []).map (fun ls=>ls.map fun s=>s.2.2.map (·.2))) (hS:∀ sp∈sps,SpecOk P N ops sp) (hst:StaysL hpL hp) (hF:F≤hp.length) (k:St.holds P F N Q (.fin .normal ks) fr0 hp0):St.holds P F N Q (.code (.region id ops true) ks) fr hp:=by
 subst hD
 subst hfu
 rw[Kox _ _ _ _ _ _ (Koy ops)] at hR hG
 exact Koa hΓ hpL ll hl bx sps (List.replicate n p) fr0 hp0 hm (by rw[List.length_replicate];exact hR) hG hS hst hF k
end
end Go.Gk
