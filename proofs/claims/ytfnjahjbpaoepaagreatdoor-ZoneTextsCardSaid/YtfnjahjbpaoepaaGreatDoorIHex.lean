import Derived.Test.YtfnjahjbpaoepaaGreatDoorIBase
import Derived.Lib.SplitLaws
set_option linter.all false
set_option maxRecDepth 100000
namespace Go.Gk
theorem Kno:∀ n:Fin 16,(hexB n.val=48 ↔ n.val=0):=by decide
theorem Knp(u:Nat):(hexS u).length≤4∧1≤(hexS u).length:=by
 unfold hexS
 split
 ·simp
 split
 ·simp
 split<;>simp
theorem Knq(u:Nat):(hexS u==[48])=((u:Int)==0):=by
 have key:hexS u=[48] ↔ u=0:=by
  unfold hexS
  split
  ·rename_i h
   have:=Kno ⟨u,h⟩
   simpa using this
  rename_i h
  have h0:u≠0:=by omega
  split
  ·simp[h0]
  split<;>simp[h0]
 by_cases h:u=0
 ·rw[beq_iff_eq.2 (key.2 h)];subst h;rfl
 have e1:(hexS u==[48])=false:=Bool.eq_false_iff.2 fun hc=>h (key.1 (beq_iff_eq.1 hc))
 have e2:((u:Int)==0)=false:=Bool.eq_false_iff.2 fun hc=>h (by have:=beq_iff_eq.1 hc;omega)
 rw[e1,e2]
theorem fmtU(u:Nat)(h:u<65536):Kuc (u:Int) 16=some (hexS u):=by
 show gd (Nat.blt u 65536) (some (hexS u))=_
 rw[show Nat.blt u _=true from by rw[Nat.blt_eq];exact h];rfl
theorem fmtI(u:Nat)(h:u<65536):Kub (u:Int) 16=some (hexS u):=by
 show gd (Nat.blt u 65536) (some (hexS u))=_
 rw[show Nat.blt u _=true from by rw[Nat.blt_eq];exact h];rfl
theorem fmtD(u:Nat)(h:u<18446744073709551616):Kuc (u:Int) 10=some (Lib.decDigits u):=by
 show gd (Nat.blt u 18446744073709551616) (some (Lib.decDigits u))=_
 rw[show Nat.blt u _=true from by rw[Nat.blt_eq];exact h];rfl
theorem Knr{σ ρ:Type}{f:σ→Option (LS σ ρ)}{k:Nat}{s:σ}(s':σ)(h:f s=some (.go s')):loopM f (k+1) s=loopM f k s':=by simp only[loopM,h]
theorem Kns{σ ρ:Type}{f:σ→Option (LS σ ρ)}{k:Nat}{s:σ}(r:ρ)(h:f s=some (.out r)):loopM f (k+1) s=some r:=by simp only[loopM,h]
theorem Knt{α β:Type}{f:α→Option β}(g:α→β):∀ (l:List α) (i:Nat) (acc:List β),(∀ x∈l,f x=some (g x))→acc.length+l.length≤4294967296→
  rangeF (σ:=List β) (fun i x s=>bi (f x) fun y=>bi (apd s [y]) fun z=>some z) i l acc=some (acc++l.map g)
 | [],i,acc,_,_=>by simp[rangeF]
 | x :: l,i,acc,h,hn=>by
  have hn':acc.length+(l.length+1)≤4294967296:=hn
  have hx:f x=some (g x):=h x (by simp)
  have ha:apd acc [g x]=some (acc++[g x]):=Kws (by simp;omega)
  have h2:=Knt g l (i+1) (acc++[g x]) (fun y hy=>h y (by simp[hy])) (by simp;omega)
  simp only[rangeF,hx,bi_some,ha]
  rw[h2]
  simp
theorem Lho(k:Nat):∀ (z:List Str) (i:Nat),z.length+i≤1000→∃ q,rangeM (σ:=Unit) (ρ:=Int) (fun i1 x3 s2=>bi (Lar x3) fun y12=>bif y12 then(bi (some (i1:Int)) fun v=>some (.out v)) else(some (.go ()))) i z ()=some q∧(q=.go ()∧(z.all fun x=>x==[48])=true∨∃ j:Nat,q=.out (j:Int)∧(z.all fun x=>x==[48])=false)
 | [],i,_=>⟨_,rfl,.inl ⟨rfl,rfl⟩⟩
 | x :: z,i,h=>by
  simp only[rangeM,Lar,bi_some]
  cases hx:((x:Str)==[48]) with
  | false=>exact⟨.out (i:Int),rfl,.inr ⟨i,rfl,by simp[List.all_cons,hx]⟩⟩
  | true=>
   obtain⟨q,h1,h2⟩:=Lho k z (i+1) (by have:(z.length+1)+i≤1000:=h;omega)
   refine⟨q,h1,?_⟩
   rcases h2 with⟨h2,h3⟩ | ⟨j,h2,h3⟩
   ·exact .inl ⟨h2,by simp[List.all_cons,hx,h3]⟩
   exact .inr ⟨j,h2,by simp only[List.all_cons,hx,h3];rfl⟩
theorem Lhp(z:List Str)(h:z.length≤1000):Lat z=some (!(z.all fun x=>x==[48])):=by
 obtain⟨q,h1,h2⟩:=Lho 0 z 0 (by omega)
 unfold Lat Las
 rw[h1]
 rcases h2 with⟨rfl,h3⟩ | ⟨j,rfl,h3⟩
 ·rw[h3];rfl
 rw[h3]
 simp only[bi_some,goI]
 rw[dT (show(j:Int)≥0 by omega)];rfl
def gap(L:List Str)(j n:Nat):Str:=Lib.join (L.take j) [58]++[58,58]++Lib.join (L.drop (j+n)) [58]
def allL(L:List Str)(j n:Nat):Bool:=((L.take (j+n)).drop j).all fun x=>x==[48]
def gapIn(L:List Str)(s40 s51:Int):Option (LS Int (Unit ⊕ (LS Int (Unit ⊕ Str)))):=bif decide ((wi (s51+s40):Int)≤8) then(bi (subZ L s51 (wi (s51+s40))) fun z61=>bi (Lat z61) fun y63=>bif !y63 then(bi (subZ L 0 s51) fun z66=>bi (Kud z66 [58]) fun y68=>bi (catZ y68 [58,58]) fun y70=>bi (subZ L (wi (s51+s40)) (L.length:Int)) fun z72=>bi (Kud z72 [58]) fun y74=>bi (catZ y70 y74) fun y76=>bi (bi (some y76) fun v=>some (.out (.inr v))) fun v=>some (.out (.inr v))) else(some (.go (wi (s51+1))))) else(some (.out (.inl ())))
def gapOut(k:Nat)(L:List Str)(s40:Int):Option (LS Int (Unit ⊕ Str)):=bif decide ((s40:Int)≥2) then(bi (loopM (gapIn L s40) k 0) fun q=>orI q fun a55=>some (.go (wi (s40 - 1)))) else(some (.out (.inl ())))
theorem Knu{L:List Str}(hl:L.length=8)(hs:∀ x∈L,x.length≤4)(j n:Nat)(h:j+n≤8) :
  Kud (L.take j) [58]=some (Lib.join (L.take j) [58])∧Kud (L.drop (j+n)) [58]=some (Lib.join (L.drop (j+n)) [58])∧(Lib.join (L.take j) [58]).length≤40∧(Lib.join (L.drop (j+n)) [58]).length≤40:=by
 have h1:=Kqz 58 (l:=L.take j) (m:=4) (by simp;omega) (by decide) (fun x hx=>hs x (List.mem_of_mem_take hx))
 have h2:=Kqz 58 (l:=L.drop (j+n)) (m:=4) (by simp;omega) (by decide) (fun x hx=>hs x (List.mem_of_mem_drop hx))
 refine⟨h1.1,h2.1,?_,?_⟩
 ·have:=h1.2;have h3:(L.take j).length≤8:=by simp;omega
  omega
 ·have:=h2.2;have h3:(L.drop (j+n)).length≤8:=by simp;omega
  omega
theorem Knv{L:List Str}(hl:L.length=8)(hs:∀ x∈L,x.length≤4)(n j:Nat)(h:j+n≤8):gapIn L (n:Int) (j:Int)=some (if allL L j n then .out (.inr (.out (.inr (gap L j n)))) else .go ((j+1:Nat):Int)):=by
 obtain⟨h1,h2,h3,h4⟩:=Knu hl hs j n h
 unfold gapIn
 rw[show wi ((j:Int)+(n:Int))=((j+n:Nat):Int) from by rw[Kwl]<;>push_cast<;>omega]
 rw[dT (show((j+n:Nat):Int)≤8 by omega),Kxc (Nat.le_add_right j n) (by omega)]
 simp only[cond_true,bi_some]
 rw[Lhp _ (by simp;omega)]
 simp only[bi_some]
 change (bif !(!(allL L j n)) then _ else _)=_
 cases hz:allL L j n with
 | false=>
  simp only[Bool.not_false,Bool.not_true,cond_false]
  rw[Kwl (by omega) (by omega)]
  push_cast
  rfl
 | true=>
  simp only[Bool.not_false,Bool.not_true,cond_true]
  rw[show(0:Int)=((0:Nat):Int) from rfl,Kxc (Nat.zero_le j) (by omega),List.drop_zero]
  simp only[bi_some]
  rw[h1]
  simp only[bi_some]
  rw[Kra (by simp;omega)]
  simp only[bi_some]
  rw[Kxc (by omega) (Nat.le_refl _),List.take_length]
  simp only[bi_some]
  rw[h2]
  simp only[bi_some]
  rw[Kra (by simp;omega)]
  rfl
theorem Knw(L:List Str)(n j:Nat)(h:j+n=9):gapIn L (n:Int) (j:Int)=some (.out (.inl ())):=by
 unfold gapIn
 rw[show wi ((j:Int)+(n:Int))=((j+n:Nat):Int) from by rw[Kwl]<;>push_cast<;>omega]
 rw[dF (show ¬ ((j+n:Nat):Int)≤8 by omega)]
 rfl
theorem Knx{L:List Str}(hl:L.length=8)(hs:∀ x∈L,x.length≤4)(n:Nat):∀ (d j k:Nat),j+n+d=9→d<k→loopM (gapIn L (n:Int)) k (j:Int)=some (match (List.range' j d).find? (fun j=>allL L j n) with
  | some j=>.inr (.out (.inr (gap L j n)))
  | none=>.inl ())
 | 0,j,k+1,h,_=>Kns _ (Knw L n j (by omega))
 | d+1,j,k+1,h,hk=>by
  have h1:=Knv hl hs n j (by omega)
  rw[List.range'_succ,List.find?_cons]
  cases hz:allL L j n with
  | true=>
   rw[hz] at h1
   exact Kns _ h1
  | false=>
   rw[hz] at h1
   rw[Knr _ h1]
   exact Knx hl hs n d (j+1) k (by omega) (by omega)
theorem Kny{L:List Str}(hl:L.length=8)(hs:∀ x∈L,x.length≤4)(n:Nat)(h:n+2≤8):gapOut 40000 L ((n+2:Nat):Int)=some (match (List.range' 0 (9 - (n+2))).find? (fun j=>allL L j (n+2)) with
  | some j=>.out (.inr (gap L j (n+2)))
  | none=>.go ((n+1:Nat):Int)):=by
 have:=Knx hl hs (n+2) (9 - (n+2)) 0 40000 (by omega) (by omega)
 unfold gapOut
 rw[dT (show((n+2:Nat):Int)≥2 by omega),cond_true]
 rw[show(0:Int)=((0:Nat):Int) from rfl,this]
 cases hf:(List.range' 0 (9 - (n+2))).find? (fun j=>allL L j (n+2)) with
 | some j=>rfl
 | none=>
  show some (LS.go (wi (((n+2:Nat):Int) - 1)))=_
  rw[show wi (((n+2:Nat):Int) - 1)=((n+1:Nat):Int) from by rw[Kwl]<;>push_cast<;>omega]
theorem Knz{L:List Str}(hl:L.length=8)(hs:∀ x∈L,x.length≤4):∀ (n k:Nat),n≤8→n<k→loopM (gapOut 40000 L) k (n:Int)=some (match ofind (allL L) n with
  | some (j,m)=>.inr (gap L j m)
  | none=>.inl ())
 | 0,k+1,_,_=>Kns _ rfl
 | 1,k+1,_,_=>Kns _ rfl
 | n+2,k+1,h,hk=>by
  have h1:=Kny hl hs n h
  rw[ofind]
  cases hf:(List.range' 0 (9 - (n+2))).find? (fun j=>allL L j (n+2)) with
  | some j=>
   rw[hf] at h1
   exact Kns _ h1
  | none=>
   rw[hf] at h1
   rw[Knr _ h1]
   exact Knz hl hs (n+1) k (by omega) (by omega)
end Go.Gk
namespace Go.Gk
def hx(a:Kya)(j:Nat):Str:=hexS (dg (nm a) j)
def hxL(a:Kya):List Str:=[hx a 7,hx a 6,hx a 5,hx a 4,hx a 3,hx a 2,hx a 1,hx a 0]
theorem Koa(a:Kya):∀ x∈hxL a,x.length≤4:=by
 intro x h
 simp only[hxL,List.mem_cons,List.not_mem_nil,or_false] at h
 rcases h with rfl | rfl | rfl | rfl | rfl | rfl | rfl | rfl<;>exact(Knp _).1
def gapT(L:List Str):Option (Nat×Nat)→Str
 | some q=>gap L q.1 q.2
 | none=>Lib.join L [58]
def gapR(L:List Str):Option (Nat×Nat)→Unit ⊕ Str
 | some q=>.inr (gap L q.1 q.2)
 | none=>.inl ()
theorem Kob{L:List Str}(hl:L.length=8)(hs:∀ x∈L,x.length≤4):loopM (gapOut 40000 L) 40000 ((8:Nat):Int)=some (gapR L (ofind (allL L) 8)):=by
 rw[Knz hl hs 8 40000 (Nat.le_refl 8) (by decide)]
 generalize ofind (allL L) 8=q
 cases q<;>rfl
theorem Koc{L:List Str}(hl:L.length=8)(hs:∀ x∈L,x.length≤4)(q:Option (Nat×Nat)):(orI (gapR L q) fun a44=>bi (Kud L [58]) fun y85=>some y85)=some (gapT L q):=by
 cases q with
 | some q=>rfl
 | none=>
  show(bi (Kud L [58]) fun y85=>some y85)=_
  rw[(Kqz 58 (l:=L) (m:=4) (by omega) (by decide) hs).1]
  rfl
def six(L:List Str):Str:=gapT L (ofind (allL L) 8)
def sixText(a:Kya):Str:=six (hxL a)
theorem dg_lt'(n j:Nat):dg n j<65536:=Kxr n j
theorem Kod(p:Nat→Nat→Bool):∀ (n:Nat) (j m:Nat),n≤8→ofind p n=some (j,m)→2≤m∧j+m≤8
 | 0,j,m,_,h=>by cases h
 | 1,j,m,_,h=>by cases h
 | n+2,j,m,hn,h=>by
  simp only[ofind] at h
  cases hf:(List.range' 0 (9 - (n+2))).find? (fun j=>p j (n+2)) with
  | some i=>
   rw[hf] at h
   cases h
   have:=List.mem_of_find?_eq_some hf
   rw[List.mem_range'] at this
   omega
  | none=>
   rw[hf] at h
   exact Kod p (n+1) j m (by omega) h
theorem Koe{L:List Str}(hl:L.length=8)(hs:∀ x∈L,x.length≤4):(six L).length≤90:=by
 unfold six
 have h0:=Kod (allL L) 8
 generalize ofind (allL L) 8=q at h0
 cases q with
 | none=>
  have:=(Kqz 58 (l:=L) (m:=4) (by omega) (by decide) hs).2
  show(Lib.join L [58]).length≤90
  omega
 | some q=>
  obtain⟨j,m⟩:=q
  obtain⟨_,_,h3,h4⟩:=Knu (L:=L) hl hs j m (h0 j m (Nat.le_refl 8) rfl).2
  show(gap L j m).length≤90
  unfold gap
  simp
  omega
theorem Kof(a:Kya):(sixText a).length≤90:=Koe rfl (Koa a)
def fourL(a:Kya):List Str:=[Lib.decDigits (dg (nm a) 1 / 256),Lib.decDigits (dg (nm a) 1 % 256),Lib.decDigits (dg (nm a) 0 / 256),Lib.decDigits (dg (nm a) 0 % 256)]
def addrT(a:Kya):Str:=if a.Six then sixText a else Lib.join (fourL a) [46]
theorem Kog:∀ n:Fin 256,(Lib.decDigits n.val).length≤3:=by decide +kernel
theorem Koh(a:Kya):∀ x∈fourL a,x.length≤3:=by
 intro x h
 have h1:=dg_lt' (nm a) 1
 have h0:=dg_lt' (nm a) 0
 simp only[fourL,List.mem_cons,List.not_mem_nil,or_false] at h
 rcases h with rfl | rfl | rfl | rfl
 ·exact Kog ⟨_,by omega⟩
 ·exact Kog ⟨_,by omega⟩
 ·exact Kog ⟨_,by omega⟩
 exact Kog ⟨_,by omega⟩
theorem Koi(a:Kya):(addrT a).length≤90:=by
 unfold addrT
 split
 ·exact Kof a
 have:=(Kqz 46 (l:=fourL a) (m:=3) (by simp[fourL]) (by decide) (Koh a)).2
 have h8:(fourL a).length=4:=rfl
 omega
def sixBody(k:Nat)(L:List Str):Option Str:=bi (loopM (gapOut k L) k 8) fun q=>orI q fun a44=>bi (Kud L [58]) fun y85=>some y85
theorem Koj{L:List Str}(hl:L.length=8)(hs:∀ x∈L,x.length≤4):sixBody 40000 L=some (six L):=by
 unfold sixBody six
 rw[show(8:Int)=((8:Nat):Int) from rfl,Kob hl hs,bi_some,Koc hl hs]
theorem Kok(k:Nat)(a:Kya):Lau k a=bif !a.Six then(bi (Lap k a) fun y2=>bi (rangeF (σ:=List Str) (fun i4 x6 s5=>bi (Kua x6) fun y15=>bi (apd s5 [y15]) fun y17=>some y17) 0 [shrV .i64 y2.2.1 8,bitsV .and .i64 y2.2.1 255,shrV .i64 y2.1 8,bitsV .and .i64 y2.1 255] ([]:List Str)) fun q7=>bi (Kud q7 [46]) fun y19=>some y19) else(bi (Laq k a) fun y22=>bi (rangeF (σ:=List Str) (fun i24 x26 s25=>bi (Kub x26 16) fun y35=>bi (apd s25 [y35]) fun y37=>some y37) 0 y22 ([]:List Str)) fun q27=>sixBody k q27):=rfl
theorem shr8(n:Nat)(h:n<65536):shrV .i64 (n:Int) 8=((n / 256:Nat):Int)∧bitsV .and .i64 (n:Int) 255=((n % 256:Nat):Int):=by
 constructor
 ·unfold shrV
  show(n:Int).fdiv (2 ^ 8)=_
  rw[Int.fdiv_eq_ediv_of_nonneg _ (by decide)]
  omega
 show IntKind.i64.wrap ((BitVec.ofInt 64 (n:Int)&&& BitVec.ofInt 64 ((255:Nat):Int)).toNat:Int)=_
 rw[Kxm,Nat.mod_eq_of_lt (show n<2 ^ 64 by omega),show(255 % 2 ^ 64:Nat)=2 ^ 8 - 1 from rfl,Nat.and_two_pow_sub_one_eq_mod,Kxl (by omega)]
end Go.Gk
namespace Go.Gk
theorem Kol(x y:Nat)(h1:x<65536)(h0:y<65536):(bi (rangeF (σ:=List Str) (fun i4 x6 s5=>bi (Kua x6) fun y15=>bi (apd s5 [y15]) fun y17=>some y17) 0 [((x / 256:Nat):Int),((x % 256:Nat):Int),((y / 256:Nat):Int),((y % 256:Nat):Int)] ([]:List Str)) fun q7=>bi (Kud q7 [46]) fun y19=>some y19)=bi (Kud [Lib.decDigits (x / 256),Lib.decDigits (x % 256),Lib.decDigits (y / 256),Lib.decDigits (y % 256)] [46]) fun y19=>some y19:=by
 rw[Knt (f:=Kua) (fun x=>Lib.itoa x) _ 0 [] ?_ (by simp)]
 ·simp only[bi_some,List.nil_append,List.map_cons,List.map_nil,Kqb]
 intro z hz
 simp only[List.mem_cons,List.not_mem_nil,or_false] at hz
 rcases hz with rfl | rfl | rfl | rfl<;>exact Kqg (by omega) (by omega)
theorem fmtI'(l:List Nat)(h:∀ x∈l,x<65536)(hn:l.length≤1000):rangeF (σ:=List Str) (fun i24 x26 s25=>bi (Kub x26 16) fun y35=>bi (apd s25 [y35]) fun y37=>some y37) 0 (l.map fun (x:Nat)=>(x:Int)) ([]:List Str)=some (l.map hexS):=by
 rw[Knt (f:=fun x=>Kub x 16) (fun x=>hexS x.toNat) _ 0 [] ?_ (by simp;omega)]
 ·simp
 intro x hx
 rw[List.mem_map] at hx
 obtain⟨y,hy,rfl⟩:=hx
 rw[Int.toNat_natCast]
 exact fmtI _ (h y hy)
theorem Kom(a b c d e f g i:Nat)(h:∀ x∈[a,b,c,d,e,f,g,i],x<65536):rangeF (σ:=List Str) (fun i24 x26 s25=>bi (Kub x26 16) fun y35=>bi (apd s25 [y35]) fun y37=>some y37) 0 [(a:Int),(b:Int),(c:Int),(d:Int),(e:Int),(f:Int),(g:Int),(i:Int)] ([]:List Str)=some [hexS a,hexS b,hexS c,hexS d,hexS e,hexS f,hexS g,hexS i]:=
 fmtI' [a,b,c,d,e,f,g,i] h (by simp)
theorem Kon(n:Nat):∀ x∈[dg n 7,dg n 6,dg n 5,dg n 4,dg n 3,dg n 2,dg n 1,dg n 0],x<65536:=by
 intro x h
 simp only[List.mem_cons,List.not_mem_nil,or_false] at h
 rcases h with rfl | rfl | rfl | rfl | rfl | rfl | rfl | rfl<;>exact dg_lt' _ _
theorem Koo{α β:Type}{x:Option α}{f:α→Option β}{v:α}(h:x=some v):bi x f=f v:=by rw[h];rfl
theorem groupsR'{a:Kya}(h:AOk a):Laq 40000 a=some [(dg (nm a) 7:Int),(dg (nm a) 6:Int),(dg (nm a) 5:Int),(dg (nm a) 4:Int),(dg (nm a) 3:Int),(dg (nm a) 2:Int),(dg (nm a) 1:Int),(dg (nm a) 0:Int)]:=Krc h
theorem sixB(n:Nat)(a:Kya)(hn:n=nm a):sixBody 40000 [hexS (dg n 7),hexS (dg n 6),hexS (dg n 5),hexS (dg n 4),hexS (dg n 3),hexS (dg n 2),hexS (dg n 1),hexS (dg n 0)]=some (sixText a):=by
 subst hn
 exact Koj (L:=hxL a) rfl (Koa a)
theorem Kop{a:Kya}(h:AOk a)(hs:a.Six=true):Lau 40000 a=some (sixText a):=by
 have hg:=groupsR' h
 have hb:=sixB (nm a) a rfl
 have hx:=Kom (dg (nm a) 7) (dg (nm a) 6) (dg (nm a) 5) (dg (nm a) 4) (dg (nm a) 3) (dg (nm a) 2) (dg (nm a) 1) (dg (nm a) 0) (Kon (nm a))
 generalize dg (nm a) 7=d7 at *
 generalize dg (nm a) 6=d6 at *
 generalize dg (nm a) 5=d5 at *
 generalize dg (nm a) 4=d4 at *
 generalize dg (nm a) 3=d3 at *
 generalize dg (nm a) 2=d2 at *
 generalize dg (nm a) 1=d1 at *
 generalize dg (nm a) 0=d0 at *
 rw[Kok,hs,Koo hg,Koo hx,hb]
 rfl
theorem Koq{a:Kya}(h:AOk a):∃ w,Lap 40000 a=some w∧w.2.1=(dg (nm a) 1:Int)∧w.1=(dg (nm a) 0:Int):=⟨_,Kxj h 40000 (by decide),rfl,rfl⟩
theorem Lhq(a:Kya)(x y:Nat)(hx:x=dg (nm a) 1)(hy:y=dg (nm a) 0):Kud [Lib.decDigits (x / 256),Lib.decDigits (x % 256),Lib.decDigits (y / 256),Lib.decDigits (y % 256)] [46]=some (Lib.join (fourL a) [46]):=by
 subst hx;subst hy
 exact(Kqz 46 (l:=fourL a) (m:=3) (by simp[fourL]) (by decide) (Koh a)).1
theorem Kor{a:Kya}(h:AOk a)(hs:a.Six=false):Lau 40000 a=some (Lib.join (fourL a) [46]):=by
 obtain⟨w,hw,e1,e0⟩:=Koq h
 have h1:=dg_lt' (nm a) 1
 have h0:=dg_lt' (nm a) 0
 have hj:=Lhq a _ _ rfl rfl
 generalize dg (nm a) 1=x at *
 generalize dg (nm a) 0=y at *
 rw[Kok,hs,Koo hw]
 simp only[Bool.not_false,cond_true]
 rw[e1,e0,(shr8 _ h1).1,(shr8 _ h1).2,(shr8 _ h0).1,(shr8 _ h0).2,Kol _ _ h1 h0]
 exact Koo hj
theorem Kos{a:Kya}(h:a.Six=true):addrT a=sixText a:=by unfold addrT;rw[if_pos h]
theorem Kot{a:Kya}(h:a.Six=false):addrT a=Lib.join (fourL a) [46]:=by unfold addrT;rw[if_neg (by rw[h];decide)]
theorem Kou{a:Kya}(h:AOk a):Lau 40000 a=some (addrT a):=by
 cases hs:a.Six with
 | false=>rw[Kot hs];exact Kor h hs
 | true=>rw[Kos hs];exact Kop h hs
end Go.Gk
namespace Go.Gk
theorem Lhr(x0 x1 x2 x3 x4 x5 x6 x7:Nat):∃ f m:Int,Kzw 40000 ((x0:Int),(x1:Int),(x2:Int),(x3:Int),(x4:Int),(x5:Int),(x6:Int),(x7:Int))=some (f,m)∧
  ((m<2∧ofind (allL [hexS x0,hexS x1,hexS x2,hexS x3,hexS x4,hexS x5,hexS x6,hexS x7]) 8=none)∨∃ j n:Nat,f=j∧m=n∧2≤n∧j+n≤8∧ofind (allL [hexS x0,hexS x1,hexS x2,hexS x3,hexS x4,hexS x5,hexS x6,hexS x7]) 8=some (j,n)):=by
 have hall:allL [hexS x0,hexS x1,hexS x2,hexS x3,hexS x4,hexS x5,hexS x6,hexS x7]=allZ [((x0:Int)==0),((x1:Int)==0),((x2:Int)==0),((x3:Int)==0),((x4:Int)==0),((x5:Int)==0),((x6:Int)==0),((x7:Int)==0)]:=by
  funext j n
  unfold allL allZ
  rw[←Knq,←Knq,←Knq,←Knq,←Knq,←Knq,←Knq,←Knq]
  rw[show[(hexS x0==[48]),(hexS x1==[48]),(hexS x2==[48]),(hexS x3==[48]),(hexS x4==[48]),(hexS x5==[48]),(hexS x6==[48]),(hexS x7==[48])]=[hexS x0,hexS x1,hexS x2,hexS x3,hexS x4,hexS x5,hexS x6,hexS x7].map (fun x=>x==[48]) from rfl]
  rw[←List.map_take,←List.map_drop,List.all_map]
  rfl
 rw[hall,Kre]
 generalize ((x0:Int)==0)=b0
 generalize ((x1:Int)==0)=b1
 generalize ((x2:Int)==0)=b2
 generalize ((x3:Int)==0)=b3
 generalize ((x4:Int)==0)=b4
 generalize ((x5:Int)==0)=b5
 generalize ((x6:Int)==0)=b6
 generalize ((x7:Int)==0)=b7
 have key:=Krd b0 b1 b2 b3 b4 b5 b6 b7
 revert key
 generalize Kzw 40000 (ind b0,ind b1,ind b2,ind b3,ind b4,ind b5,ind b6,ind b7)=u
 generalize ofind (allZ [b0,b1,b2,b3,b4,b5,b6,b7]) 8=v
 intro key
 cases u with
 | none=>cases key
 | some u=>
  obtain⟨f,m⟩:=u
  refine⟨f,m,rfl,?_⟩
  cases v with
  | none=>exact .inl ⟨of_decide_eq_true key,rfl⟩
  | some q=>
   obtain⟨j,n⟩:=q
   obtain⟨h1,h2,h3,h4⟩:=of_decide_eq_true key
   exact .inr ⟨j,n,h1,h2,h3,h4,rfl⟩
def sixIn(L:List Str)(p:Int×Int):Option Str:=bif decide ((p.2:Int)<2) then(bi (Kud L [58]) fun y46=>some y46) else(bi (subZ L 0 p.1) fun z49=>bi (Kud z49 [58]) fun y51=>bi (catZ y51 [58,58]) fun y53=>bi (subZ L (wi (p.1+p.2)) (L.length:Int)) fun z55=>bi (Kud z55 [58]) fun y57=>bi (catZ y53 y57) fun y59=>some y59)
theorem Kov{L:List Str}(hl:L.length=8)(hs:∀ x∈L,x.length≤4)(f m:Int)(h:(m<2∧ofind (allL L) 8=none)∨∃ j n:Nat,f=j∧m=n∧2≤n∧j+n≤8∧ofind (allL L) 8=some (j,n)):sixIn L (f,m)=some (six L):=by
 unfold sixIn six
 rcases h with⟨h1,h2⟩ | ⟨j,n,rfl,rfl,h3,h4,h5⟩
 ·rw[h2,dT h1,cond_true,(Kqz 58 (l:=L) (m:=4) (by omega) (by decide) hs).1]
  rfl
 obtain⟨g1,g2,g3,g4⟩:=Knu hl hs j n h4
 rw[h5,dF (show ¬ ((n:Int)<2) by omega),cond_false,show(0:Int)=((0:Nat):Int) from rfl,Koo (Kxc (Nat.zero_le j) (by omega)),List.drop_zero,Koo g1,Koo (Kra (by simp;omega))]
 simp only[]
 rw[show wi ((j:Int)+(n:Int))=((j+n:Nat):Int) from by rw[Kwl]<;>push_cast<;>omega,Koo (Kxc (by omega) (Nat.le_refl _)),List.take_length,Koo g2,Koo (Kra (by simp;omega))]
 rfl
end Go.Gk
namespace Go.Gk
theorem Lhs{f:Int→Option Str}{x7 x6 x5 x4 x3 x2 x1 x0:Int}{s7 s6 s5 s4 s3 s2 s1 s0:Str}(e7:f x7=some s7)(e6:f x6=some s6)(e5:f x5=some s5)(e4:f x4=some s4)(e3:f x3=some s3)(e2:f x2=some s2)(e1:f x1=some s1)(e0:f x0=some s0) :
  loopM (σ:=(List Str)×Int) (ρ:=List Str) (fun s26=>bif decide ((s26.2:Int)<8) then(bi (getZ ([x7,x6,x5,x4,x3,x2,x1,x0]:List Int) s26.2) fun x36=>bi (f x36) fun y38=>bi (apd s26.1 [y38]) fun y40=>some (.go (y40,wi (s26.2+1)))) else(some (.out s26.1))) 40000 (([]:List Str),0)=some [s7,s6,s5,s4,s3,s2,s1,s0]:=by
 rw[Knr ([s7],1) (by show bi (f x7) _=_;rw[e7];rfl)]
 rw[Knr ([s7,s6],2) (by show bi (f x6) _=_;rw[e6];rfl)]
 rw[Knr ([s7,s6,s5],3) (by show bi (f x5) _=_;rw[e5];rfl)]
 rw[Knr ([s7,s6,s5,s4],4) (by show bi (f x4) _=_;rw[e4];rfl)]
 rw[Knr ([s7,s6,s5,s4,s3],5) (by show bi (f x3) _=_;rw[e3];rfl)]
 rw[Knr ([s7,s6,s5,s4,s3,s2],6) (by show bi (f x2) _=_;rw[e2];rfl)]
 rw[Knr ([s7,s6,s5,s4,s3,s2,s1],7) (by show bi (f x1) _=_;rw[e1];rfl)]
 rw[Knr ([s7,s6,s5,s4,s3,s2,s1,s0],8) (by show bi (f x0) _=_;rw[e0];rfl)]
 exact Kns _ rfl
theorem Lht{f:Int→Option Int}{g:Int→Option Str}{v3 v2 v1 v0:Int}{s3 s2 s1 s0:Str}(f3:f 0=some v3)(f2:f 1=some v2)(f1:f 2=some v1)(f0:f 3=some v0)(e3:g v3=some s3)(e2:g v2=some s2)(e1:g v1=some s1)(e0:g v0=some s0) :
  loopM (σ:=(List Str)×Int) (ρ:=List Str) (fun s3=>bif decide ((s3.2:Int)<4) then(bi (f s3.2) fun y13=>bi (g y13) fun y15=>bi (apd s3.1 [y15]) fun y17=>some (.go (y17,wi (s3.2+1)))) else(some (.out s3.1))) 40000 (([]:List Str),0)=some [s3,s2,s1,s0]:=by
 rw[Knr ([s3],1) (by show bi (f 0) _=_;rw[f3];show bi (g v3) _=_;rw[e3];rfl)]
 rw[Knr ([s3,s2],2) (by show bi (f 1) _=_;rw[f2];show bi (g v2) _=_;rw[e2];rfl)]
 rw[Knr ([s3,s2,s1],3) (by show bi (f 2) _=_;rw[f1];show bi (g v1) _=_;rw[e1];rfl)]
 rw[Knr ([s3,s2,s1,s0],4) (by show bi (f 3) _=_;rw[f0];show bi (g v0) _=_;rw[e0];rfl)]
 exact Kns _ rfl
theorem Kow(k:Nat)(a:Kya):Kzx k a=bif !a.Six then(bi (loopM (σ:=(List Str)×Int) (ρ:=List Str) (fun s3=>bif decide ((s3.2:Int)<4) then(bi ((fun i=>shrZ .u64 a.Lo (wi (24 - (wi (8 * i))))) s3.2) fun y13=>bi ((fun y=>Kuc (bitsV .and .u64 y 255) 10) y13) fun y15=>bi (apd s3.1 [y15]) fun y17=>some (.go (y17,wi (s3.2+1)))) else(some (.out s3.1))) k (([]:List Str),0)) fun q5=>bi (Kud q5 [46]) fun y20=>some y20) else(bi (Kzv k a) fun y23=>bi (loopM (σ:=(List Str)×Int) (ρ:=List Str) (fun s26=>bif decide ((s26.2:Int)<8) then(bi (getZ ([y23.1,y23.2.1,y23.2.2.1,y23.2.2.2.1,y23.2.2.2.2.1,y23.2.2.2.2.2.1,y23.2.2.2.2.2.2.1,y23.2.2.2.2.2.2.2]:List Int) s26.2) fun x36=>bi ((fun x=>Kuc x 16) x36) fun y38=>bi (apd s26.1 [y38]) fun y40=>some (.go (y40,wi (s26.2+1)))) else(some (.out s26.1))) k (([]:List Str),0)) fun q28=>bi (Kzw k (y23.1,y23.2.1,y23.2.2.1,y23.2.2.2.1,y23.2.2.2.2.1,y23.2.2.2.2.2.1,y23.2.2.2.2.2.2.1,y23.2.2.2.2.2.2.2)) fun y43=>sixIn q28 y43):=rfl
theorem sixB'(n:Nat)(a:Kya)(hn:n=nm a):six [hexS (dg n 7),hexS (dg n 6),hexS (dg n 5),hexS (dg n 4),hexS (dg n 3),hexS (dg n 2),hexS (dg n 1),hexS (dg n 0)]=sixText a:=by
 subst hn
 unfold sixText hxL hx
 rfl
theorem Kox(d7 d6 d5 d4 d3 d2 d1 d0:Nat):∀ x∈[hexS d7,hexS d6,hexS d5,hexS d4,hexS d3,hexS d2,hexS d1,hexS d0],x.length≤4:=by
 intro x h
 simp only[List.mem_cons,List.not_mem_nil,or_false] at h
 rcases h with rfl | rfl | rfl | rfl | rfl | rfl | rfl | rfl<;>exact(Knp _).1
theorem Koy{a:Kya}(h:AOk a)(hs:a.Six=true):Kzx 40000 a=some (sixText a):=by
 have hg:Kzv 40000 a=some ((dg (nm a) 7:Int),(dg (nm a) 6:Int),(dg (nm a) 5:Int),(dg (nm a) 4:Int),(dg (nm a) 3:Int),(dg (nm a) 2:Int),(dg (nm a) 1:Int),(dg (nm a) 0:Int)):=Krb h
 have hb:=sixB' (nm a) a rfl
 have hd:=Kon (nm a)
 rw[←hb]
 clear hb
 generalize dg (nm a) 7=d7 at *
 generalize dg (nm a) 6=d6 at *
 generalize dg (nm a) 5=d5 at *
 generalize dg (nm a) 4=d4 at *
 generalize dg (nm a) 3=d3 at *
 generalize dg (nm a) 2=d2 at *
 generalize dg (nm a) 1=d1 at *
 generalize dg (nm a) 0=d0 at *
 obtain⟨f,m,hz,hc⟩:=Lhr d7 d6 d5 d4 d3 d2 d1 d0
 have hL:=Kov rfl (Kox d7 d6 d5 d4 d3 d2 d1 d0) f m hc
 have hl:=Lhs (f:=fun x=>Kuc x 16) (fmtU d7 (hd d7 (by simp))) (fmtU d6 (hd d6 (by simp))) (fmtU d5 (hd d5 (by simp))) (fmtU d4 (hd d4 (by simp))) (fmtU d3 (hd d3 (by simp))) (fmtU d2 (hd d2 (by simp))) (fmtU d1 (hd d1 (by simp))) (fmtU d0 (hd d0 (by simp)))
 rw[Kow,hs,Koo hg,Koo hl,Koo hz,hL]
 exact cond_false _ _
theorem Lhu(L:Nat)(hL:L<18446744073709551616)(j:Nat)(hj:j<4):shrZ .u64 (L:Int) (wi (24 - (wi (8 * ((3 - j:Nat):Int)))))=some ((L / 2 ^ (8 * j):Nat):Int)∧bitsV .and .u64 ((L / 2 ^ (8 * j):Nat):Int) 255=((L / 2 ^ (8 * j) % 256:Nat):Int):=by
 have hle:L / 2 ^ (8 * j)≤L:=Nat.div_le_self _ _
 constructor
 ·rw[show wi (24 - (wi (8 * ((3 - j:Nat):Int))))=((8 * j:Nat):Int) from by rw[Kwl (n:=8 * ((3 - j:Nat):Int)) (by omega) (by omega),Kwl (by omega) (by omega)];omega]
  exact Kxp L (8 * j) (by omega)
 rw[show(255:Int)=((255:Nat):Int) from rfl,Kxo (by omega) (by decide),show(255:Nat)=2 ^ 8 - 1 from rfl,Nat.and_two_pow_sub_one_eq_mod]
theorem Lhv{a:Kya}(h:AOk a):a.Lo.toNat / 2 ^ (8 * 3) % 256=dg (nm a) 1 / 256∧a.Lo.toNat / 2 ^ (8 * 2) % 256=dg (nm a) 1 % 256∧a.Lo.toNat / 2 ^ (8 * 1) % 256=dg (nm a) 0 / 256∧a.Lo.toNat / 2 ^ (8 * 0) % 256=dg (nm a) 0 % 256:=by
 rw[Kxe h 1 (by decide),Kxe h 0 (by decide)]
 generalize a.Lo.toNat=L
 refine⟨?_,?_,?_,?_⟩<;>omega
theorem Koz{a:Kya}(h:AOk a)(hs:a.Six=false):Kzx 40000 a=some (Lib.join (fourL a) [46]):=by
 have hj:=Lhq a _ _ rfl rfl
 obtain⟨p3,p2,p1,p0⟩:=Lhv h
 rw[←p3,←p2,←p1,←p0] at hj
 have hL:a.Lo=((a.Lo.toNat:Nat):Int):=by have:=h.l0;omega
 have hl:a.Lo.toNat<18446744073709551616:=by have:=h.l1;have:=h.l0;omega
 have f3:=Lhu _ hl 3 (by decide);have f2:=Lhu _ hl 2 (by decide);have f1:=Lhu _ hl 1 (by decide);have f0:=Lhu _ hl 0 (by decide)
 have q3:=fmtD (a.Lo.toNat / 2 ^ (8 * 3) % 256) (by omega);have q2:=fmtD (a.Lo.toNat / 2 ^ (8 * 2) % 256) (by omega);have q1:=fmtD (a.Lo.toNat / 2 ^ (8 * 1) % 256) (by omega);have q0:=fmtD (a.Lo.toNat / 2 ^ (8 * 0) % 256) (by omega)
 rw[←f3.2] at q3;rw[←f2.2] at q2;rw[←f1.2] at q1;rw[←f0.2] at q0
 have g3:=f3.1;have g2:=f2.1;have g1:=f1.1;have g0:=f0.1
 rw[←hL] at g3 g2 g1 g0
 generalize Lib.decDigits (a.Lo.toNat / 2 ^ (8 * 3) % 256)=s3 at *
 generalize Lib.decDigits (a.Lo.toNat / 2 ^ (8 * 2) % 256)=s2 at *
 generalize Lib.decDigits (a.Lo.toNat / 2 ^ (8 * 1) % 256)=s1 at *
 generalize Lib.decDigits (a.Lo.toNat / 2 ^ (8 * 0) % 256)=s0 at *
 generalize ((a.Lo.toNat / 2 ^ (8 * 3):Nat):Int)=v3 at *
 generalize ((a.Lo.toNat / 2 ^ (8 * 2):Nat):Int)=v2 at *
 generalize ((a.Lo.toNat / 2 ^ (8 * 1):Nat):Int)=v1 at *
 generalize ((a.Lo.toNat / 2 ^ (8 * 0):Nat):Int)=v0 at *
 have hlp:=Lht (f:=fun i=>shrZ .u64 a.Lo (wi (24 - (wi (8 * i))))) (g:=fun y=>Kuc (bitsV .and .u64 y 255) 10) g3 g2 g1 g0 q3 q2 q1 q0
 rw[Kow,hs,Koo hlp,Koo hj]
 exact cond_true _ _
theorem Kpa{a:Kya}(h:AOk a):Kzx 40000 a=some (addrT a):=by
 cases hs:a.Six with
 | false=>rw[Kot hs];exact Koz h hs
 | true=>rw[Kos hs];exact Koy h hs
end Go.Gk
namespace Go.Gk
theorem Kqk{c:UInt8}:∀ {s:Str},(∀ b∈s,b≠c)→Lib.indexByte s c=-1
 | [],_=>rfl
 | b :: s,h=>by
  have h1:(b==c)=false:=by simpa using h b mCs
  have ih:=Kqk (s:=s) fun c hc=>h c (mCo _ hc)
  simp[Lib.indexByte,h1,ih]
theorem Kql{c:UInt8}:∀ {x:Str} (t:Str),(∀ b∈x,b≠c)→Lib.indexByte (x++c :: t) c=(x.length:Int)
 | [],t,_=>by simp[Lib.indexByte]
 | b :: x,t,h=>by
  have h1:(b==c)=false:=by simpa using h b mCs
  have ih:=Kql (x:=x) t fun c hc=>h c (mCo _ hc)
  simp only[List.cons_append,Lib.indexByte,h1,ih,List.length_cons]
  rw[if_neg (by decide),if_neg (by simp)]
  omega
theorem Kqm{c:UInt8}{s:Str}(h:∀ b∈s,b≠c):Lib.split s [c]=[s]:=by
 unfold Lib.split
 rw[Lib.count_one,List.count_eq_zero_of_not_mem fun hm=>h _ hm rfl]
 rfl
theorem Kqn{c:UInt8}{x:Str}(t:Str)(h:∀ b∈x,b≠c):Lib.split (x++c :: t) [c]=x :: Lib.split t [c]:=by
 unfold Lib.split
 rw[Lib.count_one,Lib.count_one,List.count_append,List.count_eq_zero_of_not_mem fun hm=>h _ hm rfl,List.count_cons_self,Nat.zero_add]
 have e:Lib.index (x++c :: t) [c]=(x.length:Int):=by rw[Lib.index_one];exact Kql t h
 conv=>lhs;unfold Lib.splitK
 rw[e,if_neg (by simp)]
 simp
theorem Kqo(c:UInt8):∀ s:Str,(∀ b∈s,b≠c)∨∃ x t,s=x++c :: t∧∀ b∈x,b≠c
 | []=>.inl fun b hb=>by cases hb
 | a :: s=>by
  by_cases ha:a=c
  ·exact .inr ⟨[],s,by rw[ha];rfl,fun b hb=>by cases hb⟩
  rcases Kqo c s with h | ⟨x,t,h1,h2⟩
  ·refine .inl fun b hb=>?_
   rcases List.mem_cons.1 hb with rfl | hb
   ·exact ha
   exact h b hb
  refine .inr ⟨a :: x,t,by rw[h1];rfl,fun b hb=>?_⟩
  rcases List.mem_cons.1 hb with rfl | hb
  ·exact ha
  exact h2 b hb
theorem Kqp{c:UInt8}{s:Str}(h:∀ b∈s,b≠c):cut1 s c=(s,[],false):=by
 unfold cut1
 rw[Kqk h]
 rfl
theorem Kqq{c:UInt8}{x:Str}(t:Str)(h:∀ b∈x,b≠c):cut1 (x++c :: t) c=(x,t,true):=by
 unfold cut1
 rw[Kql t h,if_pos (by omega)]
 simp
theorem Kqr(c:UInt8)(s:Str):Lib.split s [c]≠[]:=by
 rcases Kqo c s with h | ⟨x,t,h1,h2⟩
 ·rw[Kqm h];simp
 rw[h1,Kqn t h2];simp
theorem Kqs(c:UInt8):∀ (n:Nat) (s:Str),s.length≤n→(∀ x∈Lib.split s [c],x.length≤s.length∧∀ b∈x,b∈s∧b≠c)∧(∀ b∈s,b=c∨∃ x∈Lib.split s [c],b∈x)∧(Lib.split s [c]).length≤s.length+1
 | n,s,hn=>by
  rcases Kqo c s with h | ⟨x,t,h1,h2⟩
  ·rw[Kqm h]
   refine⟨fun x hx=>?_,fun b hb=>.inr ⟨s,by simp,hb⟩,by simp⟩
   rw[List.mem_singleton.1 hx]
   exact⟨Nat.le_refl _,fun b hb=>⟨hb,h b hb⟩⟩
  have hl:s.length=x.length+1+t.length:=by rw[h1];simp;omega
  match n with
  | 0=>omega
  | n+1=>
   obtain⟨i1,i2,i3⟩:=Kqs c n t (by omega)
   rw[h1,Kqn t h2]
   refine⟨fun y hy=>?_,fun b hb=>?_,?_⟩
   ·rcases List.mem_cons.1 hy with rfl | hy
    ·exact⟨by simp,fun b hb=>⟨by simp[hb],h2 b hb⟩⟩
    obtain⟨j1,j2⟩:=i1 y hy
    exact⟨by simp;omega,fun b hb=>⟨by simp[(j2 b hb).1],(j2 b hb).2⟩⟩
   ·rw[List.mem_append,List.mem_cons] at hb
    rcases hb with hb | rfl | hb
    ·exact .inr ⟨x,by simp,hb⟩
    ·exact .inl rfl
    rcases i2 b hb with h | ⟨y,hy,h⟩
    ·exact .inl h
    exact .inr ⟨y,by simp[hy],h⟩
   simp;omega
theorem Kqt{c:UInt8}{s:Str}:decide (0≤Lib.indexByte s c)=s.contains c:=by
 rcases Kqo c s with h | ⟨x,t,h1,h2⟩
 ·rw[Kqk h]
  have:s.contains c=false:=Bool.eq_false_iff.2 fun hc=>h c (List.contains_iff_mem.1 hc) rfl
  rw[this];rfl
 rw[h1,Kql t h2,dT (by omega)]
 simp
theorem Kqu(c:UInt8)(s:Str):Lib.contains s [c]=s.contains c:=by
 unfold Lib.contains
 rw[Lib.index_one]
 exact Kqt
theorem Kqv(c:UInt8){s:Str}(h:s.length≤1000000):Ktx s [c]=some (s.contains c):=by
 unfold Ktx
 rw[Kqu,show Nat.blt s.length 4294967281=true from by rw[Nat.blt_eq];omega]
 rfl
theorem Kqw(c:UInt8){s:Str}(h:s.length≤1000000):Kts s [c]=some (Lib.split s [c]):=by
 unfold Kts
 rw[show Nat.blt s.length 4294967281=true from by rw[Nat.blt_eq];omega]
 rfl
end Go.Gk
namespace Go.Gk
def pB(x:Str):Bool:=numB x 3&&decide (0≤numV x∧numV x≤255)
theorem Kmq:∀ n:Fin 256,Kuh (Lib.decDigits n.val)=some ((n.val:Int),true)∧numB (Lib.decDigits n.val) 3=true∧numV (Lib.decDigits n.val)=(n.val:Int)∧(Lib.decDigits n.val).all isD=true:=by decide +kernel
theorem Kmr{x:Str}(h:pB x=true):∃ n:Nat,n<256∧x=Lib.decDigits n∧numV x=(n:Int):=by
 unfold pB at h
 simp only[Bool.and_eq_true,decide_eq_true_eq] at h
 obtain⟨h1,h2,h3⟩:=h
 have ht:=(Kqj (m:=3) (by decide) h1).1
 refine⟨(numV x).toNat,by omega,?_,by omega⟩
 rw[←Kqb,show(((numV x).toNat:Nat):Int)=numV x by omega]
 exact ht.symm
theorem Kms{x:Str}(h:pB x=true):x.all isD=true:=by
 obtain⟨n,hn,rfl,_⟩:=Kmr h
 exact(Kmq ⟨n,hn⟩).2.2.2
theorem Kmt(x:Str)(h:x.length≤1000000):∃ v ok,Kuh x=some (v,ok):=by
 unfold Kuh
 rw[show Nat.ble x.length 281474976710656=true from Nat.ble_eq_true_of_le (by omega),gd_true]
 cases Lib.atoiAll x<;>exact⟨_,_,rfl⟩
def fourFP(i5:Nat)(x7:Str)(s6:Int):Option (LS Int (Int×Bool)):=bi (Lbf 40000 x7 3) fun y16=>bif (((!y16.2)||(decide ((y16.1:Int)<0)))||(decide ((y16.1:Int)>255))) then(bi (some (0,false)) fun v=>some (.out v)) else(some (.go (bitsV .or .u64 (shlV .u64 s6 8) (IntKind.u64.wrap (y16.1)))))
def fourFR(i5:Nat)(x7:Str)(s6:Int):Option (LS Int (Int×Bool)):=bi (Kuh x7) fun y16=>match y16 with | (z18,false)=>(bi (some (0,false)) fun v=>some (.out v)) | (z18,true)=>(bi (Lbq z18 0 255) fun y23=>bi (bif !y23 then(some true) else(bi (Kua z18) fun y29=>some (!((y29:Str)==x7)))) fun q25=>bif q25 then(bi (some (0,false)) fun v=>some (.out v)) else(some (.go (IntKind.u64.wrap ((IntKind.u64.wrap (s6 * 256))+(IntKind.u64.wrap (z18)))))))
theorem Lhn(m n:Nat)(hm:m<2 ^ 32)(hn:n<256):bitsV .or .u64 (shlV .u64 (m:Int) 8) (IntKind.u64.wrap (n:Int))=((m * 256+n:Nat):Int)∧IntKind.u64.wrap ((IntKind.u64.wrap ((m:Int) * 256))+(IntKind.u64.wrap (n:Int)))=((m * 256+n:Nat):Int):=by
 constructor
 ·rw[Kxk (by omega)]
  have e:shlV .u64 (m:Int) 8=((m * 2 ^ 8:Nat):Int):=by
   have:=Kxq m 8 (by decide) (by omega)
   exact oSi this
  rw[e,or_u (by omega) (by omega)]
  rw[show m * 2 ^ 8||| n=m * 2 ^ 8+n from by rw[Nat.mul_comm];exact(Nat.two_pow_add_eq_or_of_lt (i:=8) (by omega) m).symm]
 rw[show(m:Int) * 256=((m * 256:Nat):Int) from by push_cast;rfl,Kxk (by omega),Kxk (by omega),show((m * 256:Nat):Int)+(n:Int)=((m * 256+n:Nat):Int) from by push_cast;rfl,Kxk (by omega)]
theorem Kmu(i:Nat)(x:Str)(m:Nat)(hm:m<2 ^ 32)(hx:x.length≤1000000):fourFP i x (m:Int)=some (if pB x then .go ((m * 256+(numV x).toNat:Nat):Int) else .out (0,false)):=by
 obtain⟨n,h1,h2⟩:=numP x 3 (by decide)
 unfold fourFP
 rw[show(3:Int)=((3:Nat):Int) from rfl,Koo h1]
 cases hb:numB x 3 with
 | false=>
  rw[if_neg (by unfold pB;rw[hb];simp)]
  rfl
 | true=>
  have hn:=h2 hb
  by_cases hr:0≤numV x∧numV x≤255
  ·have hp:pB x=true:=by unfold pB;rw[hb,dT hr];rfl
   rw[if_pos hp]
   simp only[Bool.not_true,Bool.false_or]
   rw[dF (show ¬ n<0 by omega),dF (show ¬ n>255 by omega),show n=(((numV x).toNat:Nat):Int) by omega,(Lhn m _ hm (by omega)).1]
   rfl
  have hp:pB x=false:=by unfold pB;rw[hb,dF hr];rfl
  rw[if_neg (by rw[hp];decide)]
  simp only[Bool.not_true,Bool.false_or]
  rcases(show n<0∨¬ n<0∧n>255 by omega) with h | ⟨h,h'⟩
  ·rw[dT h];rfl
  rw[dF h,dT h'];rfl
theorem Kmv(i:Nat)(x:Str)(m:Nat)(hm:m<2 ^ 32)(hx:x.length≤1000000):fourFR i x (m:Int)=some (if pB x then .go ((m * 256+(numV x).toNat:Nat):Int) else .out (0,false)):=by
 obtain⟨v,ok,h1⟩:=Kmt x hx
 unfold fourFR
 rw[Koo h1]
 cases ok with
 | false=>
  have hp:pB x=false:=Bool.eq_false_iff.2 fun h=>by
   obtain⟨n,hn,rfl,hv⟩:=Kmr h
   rw[(Kmq ⟨n,hn⟩).1] at h1
   cases h1
  rw[if_neg (by rw[hp];decide)]
  rfl
 | true=>
  simp only[]
  rw[Koo (Kpt v 0 255)]
  by_cases hr:0≤v∧v≤255
  ·rw[dT hr,Bool.not_true,cond_false,Koo (Kqg (by omega) (by omega)),bi_some]
   by_cases ht:Lib.itoa v=x
   ·have ht2:x=Lib.decDigits v.toNat:=by rw[←Kqb,show((v.toNat:Nat):Int)=v by omega,ht]
    obtain⟨b1,b2,b3,b4⟩:=Kmq ⟨v.toNat,by omega⟩
    dsimp only at b1 b2 b3
    rw[←ht2] at b1 b2 b3
    have hp:pB x=true:=by unfold pB;rw[b2,dT (by omega)];rfl
    rw[if_pos hp,beq_iff_eq.2 ht,Bool.not_true,cond_false,b3,Int.toNat_natCast,show v=((v.toNat:Nat):Int) by omega,Int.toNat_natCast,(Lhn m _ hm (by omega)).2]
   have hp:pB x=false:=Bool.eq_false_iff.2 fun h=>by
    obtain⟨n,hn,rfl,hv⟩:=Kmr h
    rw[(Kmq ⟨n,hn⟩).1] at h1
    cases h1
    exact ht (Kqb n)
   rw[if_neg (by rw[hp];decide),beq_eq_false_iff_ne.2 ht]
   rfl
  rw[dF hr]
  have hp:pB x=false:=Bool.eq_false_iff.2 fun h=>by
   obtain⟨n,hn,rfl,hv⟩:=Kmr h
   rw[(Kmq ⟨n,hn⟩).1] at h1
   cases h1
   exact hr ⟨by omega,by omega⟩
  rw[if_neg (by rw[hp];decide)]
  rfl
def fourB(s:Str):Bool:=decide ((Lib.split s [46]).length=4)&&(Lib.split s [46]).all pB
theorem Kmw(s:Str):Lbh 40000 s=bi (Kts s [46]) fun y1=>bif ((y1.length:Int):Int) != 4 then(some (0,false)) else(bi (rangeM fourFP 0 y1 0) fun q=>goI q fun a10=>some (a10,true)):=rfl
theorem Kmx(s:Str):Lbr s=bi (Kts s [46]) fun y1=>bif ((y1.length:Int):Int) != 4 then(some (0,false)) else(bi (rangeM fourFR 0 y1 0) fun q=>goI q fun a10=>some (a10,true)):=rfl
theorem Kmy{f:Nat→Str→Int→Option (LS Int (Int×Bool))}(L:List Str)(hf:∀ (i:Nat) (x:Str) (m:Nat),x∈L→m<2 ^ 32→f i x (m:Int)=some (if pB x then .go ((m * 256+(numV x).toNat:Nat):Int) else .out (0,false))) :
  ∀ (l:List Str) (i m:Nat),(∀ x∈l,x∈L)→m<256 ^ i→i+l.length≤4→∃ v:Nat,v<2 ^ 32∧rangeM f i l (m:Int)=some (if l.all pB then .go ((l.foldl (fun a x=>a * 256+(numV x).toNat) m:Nat):Int) else .out (0,false))∧(l.all pB=true→(l.foldl (fun a x=>a * 256+(numV x).toNat) m)<2 ^ 32)
 | [],i,m,_,hm,hl=>by
  have:(256:Nat) ^ i≤256 ^ 4:=Nat.pow_le_pow_right (by decide) hl
  exact⟨0,by decide,rfl,fun _=>by show m<2 ^ 32;omega⟩
 | x :: l,i,m,hL,hm,hl=>by
  have hl':i+(l.length+1)≤4:=hl
  have h4:(256:Nat) ^ i≤256 ^ 3:=Nat.pow_le_pow_right (by decide) (by omega)
  have h1:=hf i x m (hL x (by simp)) (by omega)
  cases hp:pB x with
  | false=>
   rw[hp] at h1
   refine⟨0,by decide,?_,fun h=>by simp[List.all_cons,hp] at h⟩
   simp only[rangeM,h1,List.all_cons,hp]
   rfl
  | true=>
   rw[hp] at h1
   obtain⟨n,hn,_,hv⟩:=Kmr hp
   have hb:m * 256+(numV x).toNat<256 ^ (i+1):=by rw[Nat.pow_succ];omega
   obtain⟨v,h5,h6,h7⟩:=Kmy L hf l (i+1) (m * 256+(numV x).toNat) (fun y hy=>hL y (by simp[hy])) hb (by omega)
   refine⟨0,by decide,?_,fun h=>?_⟩
   ·simp only[rangeM,h1,List.all_cons,hp,if_true,List.foldl_cons]
    exact h6
   ·simp only[List.all_cons,hp,Bool.true_and] at h
    exact h7 h
theorem Kmz(s:Str)(hs:s.length≤100000):∃ v:Int,Lbh 40000 s=some (v,fourB s)∧Lbr s=some (v,fourB s)∧0≤v∧v<4294967296:=by
 rw[Kmw,Kmx,Kqw 46 (by omega)]
 obtain⟨m1,_,_⟩:=Kqs 46 s.length s (Nat.le_refl _)
 unfold fourB
 generalize Lib.split s [46]=L at m1 ⊢
 simp only[bi_some]
 by_cases hL:L.length=4
 ·have hb:((((L.length:Nat):Int) != 4):Bool)=false:=by rw[hL];rfl
  rw[hb,dT hL]
  obtain⟨_,_,p1,p2⟩:=Kmy (f:=fourFP) L (fun i x m hx hm=>Kmu i x m hm (by have:=(m1 x hx).1;omega)) L 0 0 (fun x hx=>hx) (by decide) (by omega)
  obtain⟨_,_,r1,r2⟩:=Kmy (f:=fourFR) L (fun i x m hx hm=>Kmv i x m hm (by have:=(m1 x hx).1;omega)) L 0 0 (fun x hx=>hx) (by decide) (by omega)
  rw[show((0:Nat):Int)=0 from rfl] at p1 r1
  simp only[cond_false,Bool.true_and]
  rw[p1,r1]
  cases ha:L.all pB with
  | false=>exact⟨0,rfl,rfl,by decide,by decide⟩
  | true=>
   have:=p2 ha
   exact⟨((L.foldl (fun a x=>a * 256+(numV x).toNat) 0:Nat):Int),rfl,rfl,by omega,by omega⟩
 have hb:((((L.length:Nat):Int) != 4):Bool)=true:=by rw[bne_iff_ne];omega
 rw[hb,dF hL]
 exact⟨0,rfl,rfl,by decide,by decide⟩
theorem Kna{s:Str}(h:fourB s=true):s.contains 46=true:=by
 rcases Kqo 46 s with h1 | ⟨x,t,h1,h2⟩
 ·unfold fourB at h
  rw[Kqm h1] at h
  simp at h
 rw[h1];simp
theorem Knb{s:Str}(h:fourB s=true):s.contains 58=false:=by
 obtain⟨_,m2,_⟩:=Kqs 46 s.length s (Nat.le_refl _)
 refine Bool.eq_false_iff.2 fun hc=>?_
 rcases m2 58 (List.contains_iff_mem.1 hc) with h1 | ⟨x,hx,hb⟩
 ·cases h1
 unfold fourB at h
 simp only[Bool.and_eq_true,List.all_eq_true] at h
 have:=lAe.1 (Kms (h.2 x hx)) 58 hb
 cases this
end Go.Gk
namespace Go.Gk
def hexs:Str:=[48,49,50,51,52,53,54,55,56,57,97,98,99,100,101,102,65,66,67,68,69,70]
def puD(b:Int)(x77:Int):Option (Int ⊕ (LS (Bool×Int) (Int×Value))):=(bif ((decide ((48:Int)≤x77))&&(decide ((x77:Int)≤57))) then(some (.inl (IntKind.u8.wrap (x77 - 48)))) else(bi (Kuj x77) fun y95=>bi (bif decide ((97:Int)≤y95) then(bi (Kuj x77) fun y100=>some (decide ((y100:Int)≤122))) else(some false)) fun q97=>bif q97 then(bi (Kuj x77) fun y104=>some (.inl (IntKind.u8.wrap ((IntKind.u8.wrap (y104 - 97))+10)))) else(bi (bi (some (0,(Value.iface 317 (.int .i64 2)))) fun v=>some (.out v)) fun v=>some (.inr v))))
def puT(b cut mxv:Int)(s76:Bool×Int)(a88:Int):Option (LS (Bool×Int) (Int×Value)):=bif decide ((a88:Int)≥(IntKind.u8.wrap (b))) then(bi (some (0,(Value.iface 317 (.int .i64 2)))) fun v=>some (.out v)) else(bif decide ((s76.2:Int)≥cut) then(bi (some (mxv,(Value.iface 317 (.int .i64 1)))) fun v=>some (.out v)) else(bif ((decide ((IntKind.u64.wrap ((IntKind.u64.wrap (s76.2 * (IntKind.u64.wrap (b))))+(IntKind.u64.wrap (a88))):Int)<(IntKind.u64.wrap (s76.2 * (IntKind.u64.wrap (b))))))||(decide ((IntKind.u64.wrap ((IntKind.u64.wrap (s76.2 * (IntKind.u64.wrap (b))))+(IntKind.u64.wrap (a88))):Int)>mxv))) then(bi (some (mxv,(Value.iface 317 (.int .i64 1)))) fun v=>some (.out v)) else(some (.go (s76.1,IntKind.u64.wrap ((IntKind.u64.wrap (s76.2 * (IntKind.u64.wrap (b))))+(IntKind.u64.wrap (a88))))))))
def puF(b cut mxv:Int)(i75:Nat)(x77:Int)(s76:Bool×Int):Option (LS (Bool×Int) (Int×Value)):=
 bi (bif (((x77:Int)==95)&&((b:Int)==0)) then(bi (some (.go (true,s76.2))) fun v=>some (.inr v)) else puD b x77:Option (Int ⊕ (LS (Bool×Int) (Int×Value)))) fun q=>orI q fun a88=>puT b cut mxv s76 a88
def hexD(c:UInt8):Nat:=match puD 16 (c.toNat:Int) with
 | some (.inl d)=>d.toNat
 | _=>0
theorem Kpb:∀ c:Fin 256,hexs.contains (UInt8.ofNat c.val)=true→(match puD 16 ((UInt8.ofNat c.val).toNat:Int) with
 | some (.inl d)=>decide (0≤d∧d<16)
 | _=>false)=true:=by decide +kernel
theorem Kpc{c:UInt8}(h:hexs.contains c=true):puD 16 (c.toNat:Int)=some (.inl (hexD c:Int))∧hexD c<16:=by
 have h1:=Kpb ⟨c.toNat,c.toNat_lt⟩
 rw[UInt8.ofNat_toNat] at h1
 have h2:=h1 h
 unfold hexD
 generalize puD 16 (c.toNat:Int)=q at h2 ⊢
 match q,h2 with
 | some (.inl d),h2=>
  have h3:=of_decide_eq_true h2
  simp only
  refine⟨?_,by omega⟩
  rw[show((d.toNat:Nat):Int)=d by omega]
theorem Kpd(cut mxv:Int)(hc:65536≤cut)(hm:65535≤mxv)(n d:Nat)(hn:n * 16+d<65536)(hd:d<16):puT 16 cut mxv (false,(n:Int)) (d:Int)=some (.go (false,((n * 16+d:Nat):Int))):=by
 unfold puT
 simp only
 rw[show IntKind.u8.wrap 16=16 from rfl,show IntKind.u64.wrap 16=((16:Nat):Int) from rfl,show(n:Int) * ((16:Nat):Int)=((n * 16:Nat):Int) from by push_cast;rfl,Kxk (n:=n * 16) (by omega),Kxk (n:=d) (by omega),show((n * 16:Nat):Int)+(d:Int)=((n * 16+d:Nat):Int) from by push_cast;rfl,Kxk (n:=n * 16+d) (by omega)]
 rw[dF (show ¬ ((d:Int)≥16) by omega),dF (show ¬ ((n:Int)≥cut) by omega),dF (show ¬ (((n * 16+d:Nat):Int)<((n * 16:Nat):Int)) by omega),dF (show ¬ (((n * 16+d:Nat):Int)>mxv) by omega)]
 rfl
theorem Kpe(cut mxv:Int)(hc:65536≤cut)(hm:65535≤mxv)(i:Nat){c:UInt8}(h:hexs.contains c=true)(n:Nat)(hn:n<4096):puF 16 cut mxv i (c.toNat:Int) (false,(n:Int))=some (.go (false,((n * 16+hexD c:Nat):Int))):=by
 obtain⟨h1,h2⟩:=Kpc h
 unfold puF
 rw[show((16:Int)==0)=false from rfl,Bool.and_false,cond_false,h1,bi_some]
 exact Kpd cut mxv hc hm n (hexD c) (by omega) h2
theorem Kpf(cut mxv:Int)(hc:65536≤cut)(hm:65535≤mxv):∀ (s:Str) (i n:Nat),s.all (fun c=>hexs.contains c)=true→n<16 ^ i→i+s.length≤4→
  rangeM (puF 16 cut mxv) i (s.map fun c=>(c.toNat:Int)) (false,(n:Int))=some (.go (false,((s.foldl (fun a c=>a * 16+hexD c) n:Nat):Int)))
 | [],i,n,_,_,_=>rfl
 | c :: s,i,n,h,hn,hl=>by
  have hl':i+(s.length+1)≤4:=hl
  have h4:(16:Nat) ^ i≤16 ^ 3:=Nat.pow_le_pow_right (by decide) (by omega)
  simp only[List.all_cons,Bool.and_eq_true] at h
  have h1:=Kpe cut mxv hc hm i h.1 n (by omega)
  have h2:=(Kpc h.1).2
  have h3:=Kpf cut mxv hc hm s (i+1) (n * 16+hexD c) h.2 (by rw[Nat.pow_succ];omega) (by omega)
  simp only[List.map_cons,rangeM,h1,List.foldl_cons]
  exact h3
def hexN(s:Str):Nat:=s.foldl (fun a c=>a * 16+hexD c) 0
theorem Lhw(cut mxv:Int)(hc:65536≤cut)(hm:65535≤mxv)(s:Str)(h:s.all (fun c=>hexs.contains c)=true)(hl:s.length≤4):(bi (bytesZ s) fun y73=>bi (rangeM (σ:=Bool×Int) (ρ:=Int×Value) (puF 16 cut mxv) 0 y73 (false,0)) fun q=>goI q fun a80=>bi (bif a80.1 then(bi (Kuk 0 s) fun y126=>some (!y126)) else(some false)) fun q123=>bif q123 then(some (0,(Value.iface 317 (.int .i64 2)))) else(some (a80.2,Value.nilIface)))=some ((hexN s:Int),Value.nilIface):=by
 have hb:bytesZ s=some (bytesOf s):=by unfold bytesZ;rw[Nat.ble_eq_true_of_le (by omega)];rfl
 have h1:=Kpf cut mxv hc hm s 0 0 h (by decide) (by omega)
 rw[Koo hb]
 unfold bytesOf
 rw[show(0:Int)=((0:Nat):Int) from rfl,Koo h1]
 rfl
theorem pu64(s:Str)(hn:(s==[])=false)(h:s.all (fun c=>hexs.contains c)=true)(hl:s.length≤4):Kul 0 s 16 64=some ((hexN s:Int),Value.nilIface):=by
 have:=Lhw 1152921504606846976 (IntKind.u64.wrap (0 - 1)) (by decide) (by decide) s h hl
 unfold Kul
 rw[hn]
 exact this
theorem pu32(s:Str)(hn:(s==[])=false)(h:s.all (fun c=>hexs.contains c)=true)(hl:s.length≤4):Kul 0 s 16 32=some ((hexN s:Int),Value.nilIface):=by
 have:=Lhw 1152921504606846976 (IntKind.u64.wrap (4294967296 - 1)) (by decide) (by decide) s h hl
 unfold Kul
 rw[hn]
 exact this
theorem Lhx(s:Str)(hn:(s==[])=false)(h:s.all (fun c=>hexs.contains c)=true)(hl:s.length≤4):Kue s 16 64=some (some (hexN s:Int))∧Kue s 16 32=some (some (hexN s:Int)):=by
 constructor
 ·unfold Kue
  rw[Koo (pu64 s hn h hl)]
 unfold Kue
 rw[Koo (pu32 s hn h hl)]
end Go.Gk
