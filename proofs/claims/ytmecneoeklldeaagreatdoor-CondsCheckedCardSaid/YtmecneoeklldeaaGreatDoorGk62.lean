import Derived.Test.YtmecneoeklldeaaGreatDoorGk60
set_option linter.all false
namespace Go.Gk
structure KD where
 n:Nat
 xs:List D
def eK(k:KD):List D:=[.ro k.n k.xs]
section
variable{α:Type}{enc:α→List D}{dec:List D→Option α}{sz:Nat}
def pk(enc:α→List D)(l:List α):KD:=⟨l.length,l.flatMap enc⟩
def unKL(dec:List D→Option α)(sz:Nat):Nat→List D→Option (List α)
 | 0,[]=>some []
 | 0,_ :: _=>none
 | n+1,ds=>bi (dec (ds.take sz)) fun x=>bi (unKL dec sz n (ds.drop sz)) fun r=>some (x :: r)
def unK(dec:List D→Option α)(sz:Nat)(k:KD):Option (List α):=unKL dec sz k.n k.xs
def DecOk(enc:α→List D)(dec:List D→Option α):Prop:=∀ ds x,dec ds=some x→ds=enc x
theorem Knb(hd:DecOk enc dec):∀ (n:Nat) (ds:List D) (l:List α),unKL dec sz n ds=some l→n=l.length∧ds=l.flatMap enc
 | 0,[],l,h=>by cases h;exact⟨rfl,rfl⟩
 | 0,_ :: _,l,h=>by cases h
 | n+1,ds,l,h=>by
  obtain⟨x,hx,h⟩:=Khf h
  obtain⟨r,hr,h⟩:=Khf h
  cases h
  obtain⟨h1,h2⟩:=Knb hd n _ r hr
  refine⟨by simp[h1],?_⟩
  have:=hd _ _ hx
  rw[List.flatMap_cons,←this,←h2,List.take_append_drop]
theorem Knc(hd:DecOk enc dec){k:KD}{l:List α}(h:unK dec sz k=some l):k=pk enc l:=by
 obtain⟨h1,h2⟩:=Knb hd _ _ _ h
 cases k
 simp only at h1 h2
 rw[h1,h2];rfl
theorem G.Le.unk(hd:DecOk enc dec){k:KD}{l:List α}(h:unK dec sz k=some l):G.Le (.d (.ro k.n k.xs)) (.d (Sl enc l)):=by
 rw[Knc hd h];exact .refl _
theorem Knd(he:∀ x,dec (enc x)=some x)(hz:∀ x,(enc x).length=sz):∀ l:List α,unKL dec sz l.length (l.flatMap enc)=some l
 | []=>rfl
 | x :: l=>by
  show bi (dec (((x :: l).flatMap enc).take sz)) _=_
  rw[List.flatMap_cons,List.take_left' (hz x),he]
  show bi (unKL dec sz l.length _) _=_
  rw[List.drop_left' (hz x),Knd he hz l];rfl
theorem Kne(he:∀ x,dec (enc x)=some x)(hz:∀ x,(enc x).length=sz)(l:List α):unK dec sz (pk enc l)=some l:=Knd he hz l
end
def rdI(k:IntKind):D→Option Int
 | .v (.int k' n)=>if k'=k then some n else none
 | _=>none
def rdB:D→Option Bool
 | .v (.bool b)=>some b
 | _=>none
def rdS:D→Option Str
 | .v (.string s)=>some s.data.toList
 | _=>none
def rdK:D→Option KD
 | .ro n xs=>some ⟨n,xs⟩
 | _=>none
theorem Knf{k:IntKind}{d:D}{n:Int}(h:rdI k d=some n):d=.v (.int k n):=by
 unfold rdI at h
 split at h
 ·split at h
  ·rename_i e;subst e;cases h;rfl
  cases h
 cases h
theorem Kng{d:D}{s:Str}(h:rdS d=some s):d=.v (.string ⟨s.toArray⟩):=by
 unfold rdS at h
 split at h
 ·cases h;simp
 cases h
theorem Knh{d:D}{k:KD}(h:rdK d=some k):d=.ro k.n k.xs:=by
 unfold rdK at h
 split at h
 ·cases h;rfl
 cases h
@[simp] theorem rdI_int (k:IntKind) (n:Int):rdI k (.v (.int k n))=some n:=by simp[rdI]
@[simp] theorem rdB_bool (b:Bool):rdB (.v (.bool b))=some b:=rfl
@[simp] theorem rdS_str (s:Str):rdS (.v (.string ⟨s.toArray⟩))=some s:=by simp[rdS]
@[simp] theorem rdK_ro (n:Nat) (xs:List D):rdK (.ro n xs)=some ⟨n,xs⟩:=rfl
end Go.Gk
namespace Go.Gk
def rdInts(k:IntKind):List G→Option (List Int)
 | []=>some []
 | .d (.v (.int k' z)) :: r=>if k'=k then(rdInts k r).map (z :: ·) else none
 | _ :: _=>none
theorem Kni{k:IntKind}:∀ {xs:List G} {l:List Int},rdInts k xs=some l→xs=l.map fun z=>.d (.v (.int k z))
 | [],l,h=>by cases h;rfl
 | x :: r,l,h=>by
  unfold rdInts at h
  split at h
  ·rename_i e;cases e
  ·rename_i k' z r' e
   cases e
   split at h
   ·rename_i e;subst e
    obtain⟨l',h1,rfl⟩:=oMs.1 h
    rw[Kni h1];rfl
   cases h
  cases h
def eqGA(Γ:TypeId→Option TI)(L:List Nat):Nat→TypeId→G→G→Option Bool
 | 0,_,_,_=>none
 | d+1,t,x,y=>match Γ t with
  | some ⟨.struct fs,_,_,_⟩=>match x,y with
   | .agg xs,.agg ys=>bif L.any (Nat.beq t) then eqFs (eqGA Γ L d) Γ xs ys fs.toList else none
   | _,_=>none
  | some ⟨.array n e,_,_,_⟩=>match d,Γ e,x,y with
   | _+1,some ⟨.int k,1,_,_⟩,.agg xs,.agg ys=>match rdInts k xs,rdInts k ys with
    | some l1,some l2=>bif Nat.beq l1.length n&&Nat.beq l2.length n then some (decide (l1=l2)) else none
    | _,_=>none
   | _,_,_,_=>none
  | some ⟨.int k,_,_,_⟩=>match x,y with
   | .d (.v (.int k1 a)),.d (.v (.int k2 b))=>if k1=k2 then some (a==b) else none
   | _,_=>none
  | some ⟨.bool,_,_,_⟩=>match x,y with
   | .d (.v (.bool a)),.d (.v (.bool b))=>some (a==b)
   | _,_=>none
  | some ⟨.string,_,_,_⟩=>match x,y with
   | .d (.v (.string ⟨⟨a⟩⟩)),.d (.v (.string ⟨⟨b⟩⟩))=>some (a==b)
   | _,_=>none
  | _=>none
section
variable{P:Program}{Γ:TypeId→Option TI}{F N:Nat}{Q:GPost}{fr fr':Fr}{hp:List Ob}{ks:List Kt}
variable{α:Type}{enc:α→List D}{ops:Array Oper}{rest:List Oper}{g:G}
variable{d:Tmp}{op:Op}{ty:TypeId}{pos:String}{after:Array Edge}{gd':Option (Nat×Bool)}
theorem Knj(hΓ:TOK P Γ){L:List Nat}(hL:(L.all fun t=>!P.stoodInHeld t)=true){Z:Env}{M:Mp}{w:World}:∀ (n m:Nat) (t:TypeId) (x y:G) (v u:Value) (b:Bool),eqGA Γ L n t x y=some b→n≤m→
  VR w (ownZ Z hp M) M x v→VR w (ownZ Z hp M) M y u→(Op.equalIn m t v u).run P w=.ok b w
 | 0,m,t,x,y,v,u,b,h,_,_,_=>by cases h
 | n+1,0,t,x,y,v,u,b,h,hm,_,_=>by omega
 | n+1,m+1,t,x,y,v,u,b,h,hm,hv,hu=>by
  simp only[eqGA] at h
  split at h
  ·rename_i fs sz by_ z hi
   split at h
   ·rename_i xs ys
    cases hc:L.any (Nat.beq t) with
    | false=>rw[hc] at h;cases h
    | true=>
     rw[hc] at h
     simp only[cond_true] at h
     obtain⟨t',ht',hb⟩:=List.any_eq_true.1 hc
     have:=nEq hb
     subst this
     have hs:P.stoodInHeld t=false:=by simpa using lAe.1 hL t ht'
     obtain⟨hu',_⟩:=hΓ t _ hi
     have hfs:P.fieldsOf t=fs:=by unfold Program.fieldsOf;rw[hu']
     have hpr:=hv
     have hpr':=hu
     cases hv with
     | agg l1 r1=>
      cases hu with
      | agg l2 r2=>
       rename_i c1 c2
       rw[run_equalIn_agg w m t c1 c2 (by rw[hfs];exact hu') hs,hfs]
       generalize fs.toList=l at h
       clear hfs hu' hi
       induction l generalizing b with
       | nil=>cases h;simp[Op.eqFields]
       | cons f l ih=>
        simp only[eqFs] at h
        simp only[Op.eqFields]
        by_cases hn:f.name = "_"
        ·rw[if_pos hn] at h
         simp only[hn,ne_eq,not_true_eq_false,if_false]
         exact ih b h
        ·rw[if_neg hn] at h
         simp only[ne_eq,hn,not_false_eq_true,if_true]
         cases hti:Γ f.type with
         | none=>rw[hti] at h;simp at h
         | some i=>
          rw[hti] at h
          simp only[Option.bind_some] at h
          cases ha:partG i xs f.offset with
          | none=>rw[ha] at h;simp at h
          | some ga=>
           cases hb':partG i ys f.offset with
           | none=>rw[ha,hb'] at h;simp at h
           | some gb=>
            rw[ha,hb'] at h
            simp only[Option.bind_some] at h
            cases he:eqGA Γ L n f.type ga gb with
            | none=>rw[he] at h;simp at h
            | some q=>
             cases hr:eqFs (eqGA Γ L n) Γ xs ys l with
             | none=>rw[he,hr] at h;simp at h
             | some r=>
              rw[he,hr] at h
              cases h
              obtain⟨va,e1,e2⟩:=Kpe (P:=P) (hp:=hp) hΓ hti hpr ha
              obtain⟨vb,e3,e4⟩:=Kpe (P:=P) (hp:=hp) hΓ hti hpr' hb'
              have e5:=Knj hΓ hL n m f.type ga gb va vb q he (by omega) e2 e4
              have e6:=ih r hr
              simp only[Sem.run_bind,e1,e3,e5,Result.andThen_ok]
              cases q
              ·simp
              ·simpa using e6
   ·cases h
  ·rename_i n' e _ _ _ hi
   split at h
   ·rename_i n2 k _ _ xs ys he
    split at h
    ·rename_i l1 l2 h1 h2
     cases hc:(Nat.beq l1.length n'&&Nat.beq l2.length n') with
     | false=>rw[hc] at h;cases h
     | true=>
      rw[hc] at h
      cases h
      simp only[Bool.and_eq_true] at hc
      obtain⟨m',rfl⟩:∃ m',m=m'+1:=⟨m - 1,by omega⟩
      obtain⟨X,rfl,hX⟩:=Kmk (Kni h1) hv
      obtain⟨Y,rfl,hY⟩:=Kmk (Kni h2) hu
      obtain⟨u1,_⟩:=hΓ t _ hi
      obtain⟨u2,_⟩:=hΓ e _ he
      have hs:=run_size' (P:=P) (w:=w) hΓ he
      exact Kmj (d:=m') w u1 u2 hs hX hY (nEq hc.1) (nEq hc.2)
    ·cases h
   ·cases h
  ·rename_i k _ _ _ hi
   obtain⟨hu',_⟩:=hΓ t _ hi
   split at h
   ·rename_i k1 a k2 b'
    split at h
    ·rename_i hk
     subst hk
     cases h
     rw[vr_v hv,vr_v hu]
     exact run_equalIn_int w m t k1 k a b' hu'
    ·cases h
   ·cases h
  ·rename_i hi
   obtain⟨hu',_⟩:=hΓ t _ hi
   split at h
   ·rename_i a b'
    cases h
    rw[vr_v hv,vr_v hu]
    exact run_equalIn_bool' w m t a b' hu'
   ·cases h
  ·rename_i hi
   obtain⟨hu',_⟩:=hΓ t _ hi
   split at h
   ·rename_i a b'
    cases h
    rw[vr_v hv,vr_v hu]
    have:=run_equalIn_string (P:=P) w m t ⟨⟨a⟩⟩ ⟨⟨b'⟩⟩ hu'
    rw[toList_mk',toList_mk'] at this
    exact this
   ·cases h
  ·cases h
theorem Knk(hΓ:TOK P Γ)(L:List Nat){t t':TypeId}{x y:Operand}{xs ys:List G}{b:Bool}(hL:(L.all fun t=>!P.stoodInHeld t)=true)(hm:P.eqGuardType P.depth t=false)(hx:fr.ev x=some (.agg xs))(hy:fr.ev y=some (.agg ys))(he:eqGA Γ L 9 t (.agg xs) (.agg ys)=some b) :
  OpP P N ⟨some d,.binOp .eql t x y t',ty,pos,after,gd'⟩ fr hp (B b):=fun Z w M a hr=>by
 have h1:=hr.ev hx
 have h2:=hr.ev hy
 have h3:=Knj (P:=P) (hp:=hp) hΓ hL 9 10000 t _ _ _ _ b he (by decide) h1 h2
 generalize hvx:a.eval x=vx at *
 generalize hvy:a.eval y=vy at *
 cases h1 with
 | agg l1 r1=>
  cases h2 with
  | agg l2 r2=>
   refine⟨.bool b,?_,.d (.v _ rfl)⟩
   simp only[execOp,hvx,hvy,Sem.run_bind,run_eqGuard_agg w _ t _ _ _ _ hm,Result.andThen_ok,run_eql_struct,h3]
   rfl
theorem Knl(hΓ:TOK P Γ)(L:List Nat){t t':TypeId}{x y:Operand}{xs ys:List G}{b:Bool}(hL:(L.all fun t=>!P.stoodInHeld t)=true)(hm:P.eqGuardType P.depth t=false)(hx:fr.ev x=some (.agg xs))(hy:fr.ev y=some (.agg ys))(he:eqGA Γ L 9 t (.agg xs) (.agg ys)=some b) :
  OpP P N ⟨some d,.binOp .neq t x y t',ty,pos,after,gd'⟩ fr hp (B !b):=fun Z w M a hr=>by
 have h1:=hr.ev hx
 have h2:=hr.ev hy
 have h3:=Knj (P:=P) (hp:=hp) hΓ hL 9 10000 t _ _ _ _ b he (by decide) h1 h2
 generalize hvx:a.eval x=vx at *
 generalize hvy:a.eval y=vy at *
 cases h1 with
 | agg l1 r1=>
  cases h2 with
  | agg l2 r2=>
   refine⟨.bool !b,?_,.d (.v _ rfl)⟩
   simp only[execOp,hvx,hvy,Sem.run_bind,run_eqGuard_agg w _ t _ _ _ _ hm,Result.andThen_ok,run_neq_struct,h3]
   rfl
end
end Go.Gk
