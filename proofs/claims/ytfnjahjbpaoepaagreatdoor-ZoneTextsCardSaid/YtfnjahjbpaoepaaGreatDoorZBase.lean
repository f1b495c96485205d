import Derived.Test.YtfnjahjbpaoepaaGreatDoorXZM
set_option linter.all false
set_option maxRecDepth 100000
namespace Go.Gk.ZZ
theorem Kwl{n:Int}(h1 : -9223372036854775808≤n)(h2:n≤9223372036854775807):wi n=n:=w64 ⟨h1,h2⟩
theorem Kwm{α σ:Type}{f:Nat→α→σ→Option σ}(n:Nat)(I:Nat→σ→Prop):∀ (l:List α) (i:Nat) (s:σ),i+l.length≤n→I i s→(∀ j x s,j<n→I j s→x∈l→∃ s',f j x s=some s'∧I (j+1) s')→∃ r,rangeF f i l s=some r∧I (i+l.length) r
 | [],i,s,_,h,_=>⟨s,rfl,h⟩
 | x :: l,i,s,hn,h,st=>by
  simp only[List.length_cons] at hn
  obtain⟨s',h1,h2⟩:=st i x s (by omega) h (List.mem_cons_self)
  obtain⟨r,h3,h4⟩:=Kwm n I l (i+1) s' (by omega) h2 fun j y s hj hI hy=>st j y s hj hI (List.mem_cons_of_mem _ hy)
  refine⟨r,by simp only[rangeF,h1,bi_some,h3],?_⟩
  rw[List.length_cons,show i+(l.length+1)=i+1+l.length by omega]
  exact h4
theorem Kwn(x n:Int)(hn:1≤n)(hn2:n≤4611686018427387904):∃ r,0≤r∧r<n∧Kyd x n=some r:=by
 have h1:x.tmod n<n:=Int.tmod_lt_of_pos x (by omega)
 have h2 : -n<x.tmod n:=by
  have:=Int.tmod_lt_of_pos (-x) (show 0<n by omega)
  rw[Int.neg_tmod] at this
  omega
 unfold Kyd remZ
 rw[decide_eq_false (show ¬ n<1 by omega),decide_eq_false (show ¬ n=0 by omega)]
 simp only[cond_false,bi_some]
 by_cases h:x.tmod n<0
 ·rw[decide_eq_true h]
  exact⟨x.tmod n+n,by omega,by omega,by simp only[cond_true,bi_some];rw[Kwl (by omega) (by omega)]⟩
 rw[decide_eq_false h]
 exact⟨x.tmod n,by omega,h1,rfl⟩
theorem Kwo(l:List Int)(a n:Int)(hl:l.length≤9223372036854775807)(h0:0≤a)(h1:a<4611686018427387904)(hn:1≤n)(hn2:n≤4611686018427387904) :
  ∃ r,0≤r∧r<n∧Kye ⟨l,a⟩ n=some (r,⟨l,a+1⟩):=by
 unfold Kye
 have hw:wi (a+1)=a+1:=Kwl (by omega) (by omega)
 have hw1:wi (a+1 - 1)=a:=by rw[Kwl (by omega) (by omega)];omega
 simp only[hw,hw1]
 by_cases hne:l.length=0
 ·obtain⟨r,r0,r1,hr⟩:=Kwn (wi ((a+1) * 7919)) n hn hn2
  exact⟨r,r0,r1,by simp[hne,hr]⟩
 ·have hk:a.toNat % l.length<l.length:=Nat.mod_lt _ (by omega)
  have hkk:a.tmod (l.length:Int)=((a.toNat % l.length:Nat):Int):=by
   rw[Int.tmod_eq_emod_of_nonneg h0,Int.natCast_emod,Int.toNat_of_nonneg h0]
  have hne':¬ (l.length:Int)=0:=by omega
  obtain⟨r1,_,_,e1⟩:=Kwn l[a.toNat % l.length] 1073741824 (by decide) (by decide)
  obtain⟨r,r0,r1,hr⟩:=Kwn (wi (r1+wi (wi (a.tdiv (l.length:Int)) * wi (7919+((a.toNat % l.length:Nat):Int))))) n hn hn2
  refine⟨r,r0,r1,?_⟩
  have:((l.length:Int)==0)=false:=by simpa using hne'
  rw[this]
  simp only[cond_false,remZ,divZ,decide_eq_false hne',bi_some,hkk,getZ_cast,List.getElem?_eq_getElem hk,e1]
  rw[show IntKind.i64.wrap (a.tdiv (l.length:Int))=wi (a.tdiv (l.length:Int)) from rfl,hr]
  rfl
theorem Kwp(l:List Int)(a n:Int)(hl:l.length≤9223372036854775807)(h0:0≤a)(h1:a<4611686018427387904)(hn:1≤n)(hn2:n≤4611686018427387904) :
  ∃ b,Kyf ⟨l,a⟩ n=some (b,⟨l,a+1⟩):=by
 obtain⟨r,_,_,h⟩:=Kwo l a n hl h0 h1 hn hn2
 exact⟨_,by unfold Kyf;rw[h];rfl⟩
theorem Kwq{α:Type}(xs:List α){r:Int}(h0:0≤r)(h1:r<xs.length):∃ x,x∈xs∧getZ xs r=some x:=by
 obtain⟨k,rfl⟩:=Int.eq_ofNat_of_zero_le h0
 exact⟨xs[k],List.getElem_mem _,by rw[getZ_cast,List.getElem?_eq_getElem (by omega)]⟩
theorem Lgi(l:List Int)(a:Int)(xs:List Str)(hl:l.length≤9223372036854775807)(h0:0≤a)(h1:a<4611686018427387904)(hn:1≤xs.length)(hn2:xs.length≤1000) :
  ∃ x,x∈xs∧Kyk ⟨l,a⟩ xs=some (x,⟨l,a+1⟩):=by
 obtain⟨r,r0,r1,h⟩:=Kwo l a xs.length hl h0 h1 (by omega) (by omega)
 obtain⟨x,hx,e⟩:=Kwq xs r0 r1
 exact⟨x,hx,by unfold Kyk;rw[h];simp only[bi_some,e]⟩
theorem Kwr(l:List Int)(a:Int)(xs:List Int)(hl:l.length≤9223372036854775807)(h0:0≤a)(h1:a<4611686018427387904)(hn:1≤xs.length)(hn2:xs.length≤1000) :
  ∃ x,x∈xs∧Kyg ⟨l,a⟩ xs=some (x,⟨l,a+1⟩):=by
 obtain⟨r,r0,r1,h⟩:=Kwo l a xs.length hl h0 h1 (by omega) (by omega)
 obtain⟨x,hx,e⟩:=Kwq xs r0 r1
 exact⟨x,hx,by unfold Kyg;rw[h];simp only[bi_some,e]⟩
def dom1:List Str:=[[],[46],[97,46,46,98],[45,97],[65,46,98],[97,95,98],[95,120,46,121],Lib.repeatL [97] 64,Lib.repeatL [97,98,99,46] 63++[120],Lib.repeatL [97,98,99,46] 63++[120,121],[97,46]]
theorem Lgj:∀ x∈dom1,x.length≤300:=by decide +kernel
theorem rep1:Ktt [97] 64=some (Lib.repeatL [97] 64):=by rfl
theorem rep2:Ktt [97,98,99,46] 63=some (Lib.repeatL [97,98,99,46] 63):=by rfl
theorem Lgk{a b:Str}(h:a.length+b.length≤9223372036854775807):catZ a b=some (a++b):=by unfold catZ;rw[Nat.ble_eq_true_of_le h];rfl
theorem Kws{α:Type}{a b:List α}(h:a.length+b.length≤4294967296):apd a b=some (a++b):=by unfold apd;rw[Nat.ble_eq_true_of_le h];rfl
theorem Lgl(l:List Int)(a:Int)(hl:l.length≤9223372036854775807)(h0:0≤a)(h1:a<4611686018427387000) :
  ∃ d:Str,d.length≤300∧Kzb ⟨l,a⟩=some (d,⟨l,a+2⟩):=by
 obtain⟨b,hb⟩:=Kwp l a 12 hl h0 (by omega) (by decide) (by decide)
 have e2:a+1+1=a+2:=by omega
 unfold Kzb
 rw[hb]
 simp only[bi_some]
 cases b with
 | true=>
  obtain⟨x,hx,h⟩:=Lgi l (a+1) dom1 hl (by omega) (by omega) (by decide) (by decide)
  refine⟨x,Lgj x hx,?_⟩
  have l2:(Lib.repeatL [97,98,99,46] 63).length=252:=by rw[Lib.repeatL_length];rfl
  simp only[cond_true,rep1,rep2,bi_some]
  rw[Lgk (by rw[l2];decide),bi_some,Lgk (by rw[l2];decide),bi_some]
  have:=h
  unfold dom1 at this
  rw[this,e2]
  rfl
 | false=>
  simp only[cond_false]
  generalize hxs:([[110,101,116,46,120],[97,46,110,101,116,46,120],[98,46,110,101,116,46,120],[99,46,110,101,116,46,120],[97,46,98,46,110,101,116,46,120],[108,97,98,46,110,101,116,46,120],[113,46,108,97,98,46,110,101,116,46,120],[120],[97,110,101,116,46,120],[111,116,104,101,114],[97],[98]]:List Str)=xs
  have hlen:xs.length=12:=by rw[←hxs];rfl
  have hall:∀ x∈xs,x.length≤300:=by rw[←hxs];decide
  obtain⟨x,hx,h⟩:=Lgi l (a+1) xs hl (by omega) (by omega) (by omega) (by omega)
  exact⟨x,hall x hx,by rw[h,e2];rfl⟩
end Go.Gk.ZZ
namespace Go.Gk.ZZ
theorem Kwt{α ρ:Type}{f:Nat→α→Unit→Option (LS Unit ρ)}:∀ (l:List α) (i:Nat),(∀ j x,j<i+l.length→x∈l→∃ y,f j x ()=some y)→∃ r,rangeM f i l ()=some r
 | [],i,_=>⟨_,rfl⟩
 | x :: l,i,h=>by
  obtain⟨y,hy⟩:=h i x (by simp) List.mem_cons_self
  simp only[rangeM,hy]
  cases y with
  | out r=>exact⟨_,rfl⟩
  | go s'=>exact Kwt l (i+1) fun j y hj hy=>h j y (by simp only[List.length_cons];omega) (List.mem_cons_of_mem _ hy)
theorem Kwu{α ρ:Type}{f:Nat→α→Unit→Option (LS Unit ρ)}(p:α→Bool)(v:ρ):∀ (l:List α) (i:Nat),(∀ j x,l[j]?=some x→f (i+j) x ()=some (if p x then .go () else .out v))→rangeM f i l ()=some (if l.all p then .go () else .out v)
 | [],i,_=>rfl
 | x :: l,i,h=>by
  have h0:=h 0 x (by simp)
  have ih:=Kwu p v l (i+1) fun j y hy=>by rw[show i+1+j=i+(j+1) by omega];exact h (j+1) y (by simpa using hy)
  rw[Nat.add_zero] at h0
  simp only[rangeM,h0,List.all_cons]
  by_cases hp:p x=true
  ·simp only[hp,if_true,Bool.true_and];exact ih
  simp only[Bool.not_eq_true] at hp;simp[hp]
theorem Kwv{α ρ:Type}{f:Nat→Unit→Option (LS Unit ρ)}(p:α→Bool)(v:ρ)(s:List α)(h:∀ i x,s[i]?=some x→f i ()=some (if p x then .go () else .out v)):rangeI f (s.length:Int) ()=some (if s.all p then .go () else .out v):=by
 have key:∀ (l:List α) (i:Nat),(∀ j x,l[j]?=some x→f (i+j) ()=some (if p x then .go () else .out v))→rangeM (fun i (_:Unit) s=>f i s) i (List.replicate l.length ()) ()=some (if l.all p then .go () else .out v):=by
  intro l
  induction l with
  | nil=>intro i _;rfl
  | cons x l ih0=>
   intro i h
   have h0:=h 0 x (by simp)
   have ih:=ih0 (i+1) fun j y hy=>by rw[show i+1+j=i+(j+1) by omega];exact h (j+1) y (by simpa using hy)
   rw[Nat.add_zero] at h0
   simp only[List.length_cons,List.replicate_succ,rangeM,h0,List.all_cons]
   by_cases hp:p x=true
   ·simp only[hp,if_true,Bool.true_and];exact ih
   simp only[Bool.not_eq_true] at hp;simp[hp]
 unfold rangeI
 rw[Int.toNat_natCast]
 exact key s 0 fun j x hx=>by rw[Nat.zero_add];exact h j x hx
def letB(c:UInt8):Bool:=(decide (97≤c.toNat)&&decide (c.toNat≤122))||(decide (48≤c.toNat)&&decide (c.toNat≤57))
theorem Lgm(c:UInt8):Kzd (c.toNat:Int)=some (letB c):=by
 unfold Kzd letB
 congr 1
 rw[Bool.eq_iff_iff]
 simp
 omega
def labB(s:Str):Bool:=(s.all fun c=>letB c||decide (c.toNat=45))&&(decide (s≠[])&&decide (s.length≤63))&&(decide (s[0]?≠some 45)&&decide (s[s.length - 1]?≠some 45))
def lbs:Str:=[97,98,99,100,101,102,103,104,105,106,107,108,109,110,111,112,113,114,115,116,117,118,119,120,121,122,48,49,50,51,52,53,54,55,56,57,45]
def isLabB(s:Str):Bool:=if Lib.hasPrefix s [95] then !Lib.hasPrefix (Lib.trimPrefix s [95]) [95]&&labB (Lib.trimPrefix s [95])&&decide (s.length≤63) else labB s
theorem Lgn(c:UInt8):(letB c||decide (c.toNat=45))=lbs.contains c:=by
 have h:∀ n,n<256→(letB (UInt8.ofNat n)||decide ((UInt8.ofNat n).toNat=45))=lbs.contains (UInt8.ofNat n):=by decide +kernel
 have:=h c.toNat c.toNat_lt
 simpa using this
theorem Kpu(p:UInt8→Bool):∀ l:Str,l.dropWhile p=[] ↔ ∀ x∈l,p x=true
 | []=>by simp
 | c :: l=>by
  have ih:=Kpu p l
  rw[List.dropWhile_cons]
  split
  ·rename_i h;rw[ih];simp[h]
  rename_i h;simp[h]
theorem Kpv(t cs:Str):(Lib.trimS t cs==[])=t.all fun c=>cs.contains c:=by
 rw[Bool.eq_iff_iff,beq_iff_eq,List.all_eq_true]
 unfold Lib.trimS Lib.trimLeftS
 rw[Kpu]
 unfold Lib.trimRightS
 constructor
 ·intro h x hx
  have hs:t.reverse=t.reverse.takeWhile (cs.contains ·)++t.reverse.dropWhile (cs.contains ·):=(List.takeWhile_append_dropWhile).symm
  have hx':x∈t.reverse:=List.mem_reverse.2 hx
  rw[hs,List.mem_append] at hx'
  rcases hx' with hx' | hx'
  ·have:=List.all_eq_true.1 (List.all_takeWhile (p:=(cs.contains ·)) (l:=t.reverse)) x hx'
   exact this
  exact h x (List.mem_reverse.2 hx')
 intro h x hx
 have:=(List.dropWhile_sublist (cs.contains ·)).subset (List.mem_reverse.1 hx)
 exact h x (List.mem_reverse.1 this)
theorem Lgo(t:Str)(h:Lib.hasPrefix t [95]=true):labB t=false:=by
 cases t with
 | nil=>rfl
 | cons c t=>
  have:c=95:=by
   simp[Lib.hasPrefix] at h
   first | exact h | exact h.symm
  subst this
  simp[labB,letB]
theorem Lgp(s:Str)(h:s.length≤63):isLabB s=labB (Lib.trimPrefix s [95]):=by
 unfold isLabB
 split
 ·cases hp2:Lib.hasPrefix (Lib.trimPrefix s [95]) [95] with
  | true=>rw[Lgo _ hp2];rfl
  | false=>rw[decide_eq_true h];simp only[Bool.not_false,Bool.true_and,Bool.and_true]
 rename_i hn
 rw[Lib.trimPrefix,if_neg hn]
theorem Lgq(s:Str)(h:¬ s.length≤63):isLabB s=false:=by
 unfold isLabB labB
 split<;>simp[h]
theorem Lgr(s p:Str):(Lib.trimPrefix s p).length≤s.length:=by
 unfold Lib.trimPrefix
 split<;>simp
theorem Lgs(s:Str)(hs:s.length≤1099511627776):(bi (bif ((!((s:Str)==[]))&&(decide (((s.length:Int):Int)≤63))) then(bi (getZ s 0) fun c42=>some (((c42.toNat:Int):Int) != 45)) else(some false)) fun q39=>bi (bif q39 then(bi (getZ s (wi ((s.length:Int) - 1))) fun c48=>some (((c48.toNat:Int):Int) != 45)) else(some false)) fun q45=>some q45)=some ((decide (s≠[])&&decide (s.length≤63))&&(decide (s[0]?≠some 45)&&decide (s[s.length - 1]?≠some 45))):=by
 by_cases he:s=[]
 ·subst he;rfl
 have hpos:0<s.length:=List.length_pos_iff.2 he
 have hb:(s==[])=false:=by simpa using he
 rw[hb,Kwl (by omega) (by omega),show((s.length:Int) - 1)=((s.length - 1:Nat):Int) by omega,show(0:Int)=((0:Nat):Int) from rfl,getZ_cast,getZ_cast]
 have hc0:=List.getElem?_eq_getElem hpos
 have hcl:=List.getElem?_eq_getElem (show s.length - 1<s.length by omega)
 generalize s[0]=c0 at hc0
 generalize s[s.length - 1]=cl at hcl
 rw[hc0,hcl]
 have k0:((c0.toNat:Int) != 45)=decide ((some c0:Option UInt8)≠some 45):=by
  rw[Bool.eq_iff_iff];simp[←UInt8.toNat_inj];omega
 have k1:((cl.toNat:Int) != 45)=decide ((some cl:Option UInt8)≠some 45):=by
  rw[Bool.eq_iff_iff];simp[←UInt8.toNat_inj];omega
 have k2:decide ((s.length:Int)≤63)=decide (s.length≤63):=by rw[Bool.eq_iff_iff];simp;omega
 simp only[bi_some,k0,k1,k2,decide_eq_true (show s≠[] from he),Bool.not_false,Bool.true_and]
 cases decide (s.length≤63)<;>cases decide ((some c0:Option UInt8)≠some 45)<;>cases decide ((some cl:Option UInt8)≠some 45)<;>rfl
theorem Lje(k:Nat)(s:Str)(hs:s.length≤1099511627776)(hp:Lib.hasPrefix s [95]=false):Kze (k+1) s=some (labB s):=by
 unfold Kze Ktp
 simp only[bi_some,hp,cond_false]
 rw[Kwv (fun c=>letB c||decide (c.toNat=45)) false s (fun i c hc=>by
  rw[getZ_cast,hc]
  simp only[bi_some,Lgm]
  have k0:((c.toNat:Int) != 45)=!decide (c.toNat=45):=by
   rw[Bool.eq_iff_iff];simp;omega
  rw[k0]
  cases letB c<;>cases decide (c.toNat=45)<;>rfl)]
 rw[decide_eq_true (show(s.length:Int)≤9223372036854775807 by omega),gd_true,bi_some]
 cases hall:(s.all fun c=>letB c||decide (c.toNat=45)) with
 | false=>simp[goI,labB,hall]
 | true=>
  simp only[if_true,goI]
  rw[Lgs s hs]
  simp[labB,hall]
theorem Lgt(k:Nat)(s:Str)(hs:s.length≤1099511627776):Kze (k+2) s=some (isLabB s):=by
 cases hp:Lib.hasPrefix s [95] with
 | false=>rw[Lje (k+1) s hs hp];simp[isLabB,hp]
 | true=>
  have hle:=Lgr s [95]
  unfold Kze Ktp Ktn
  simp only[bi_some,hp,cond_true,isLabB,if_true]
  have k2:decide ((s.length:Int)≤63)=decide (s.length≤63):=by rw[Bool.eq_iff_iff];simp;omega
  rw[k2]
  cases hp2:Lib.hasPrefix (Lib.trimPrefix s [95]) [95] with
  | true=>rfl
  | false=>
   rw[Lje k _ (by omega) hp2]
   rfl
theorem Lgu(s:Str)(hs:s.length≤1099511627776):Lac s=some (isLabB s):=by
 unfold Lac Kto
 by_cases hl:s.length≤63
 ·rw[Lgp s hl,decide_eq_false (show ¬ (s.length:Int)>63 by omega)]
  have hle:=Lgr s [95]
  simp only[cond_false,bi_some]
  generalize Lib.trimPrefix s [95]=t at hle
  have ht:Ktr t [97,98,99,100,101,102,103,104,105,106,107,108,109,110,111,112,113,114,115,116,117,118,119,120,121,122,48,49,50,51,52,53,54,55,56,57,45]=some (Lib.trimS t lbs):=by
   unfold Ktr
   rw[Nat.ble_eq_true_of_le (show t.length≤1099511627776 by omega)]
   rfl
  have hall:(t.all fun c=>letB c||decide (c.toNat=45))=(Lib.trimS t lbs==[]):=by rw[Kpv];congr 1;funext c;exact Lgn c
  have:=Lgs t (by omega)
  rw[ht]
  simp only[bi_some]
  by_cases he:t=[]
  ·subst he;rfl
  have hb:(t==[])=false:=by simpa using he
  rw[hb] at this ⊢
  rw[decide_eq_true (show(t.length:Int)≤63 by omega)] at this
  simp only[Bool.not_false,cond_true,Bool.true_and,bi_some] at this ⊢
  simp only[labB,hall,decide_eq_true (show t≠[] from he),decide_eq_true (show t.length≤63 by omega),Bool.true_and] at this ⊢
  cases hc:(Lib.trimS t lbs==[]) with
  | false=>rfl
  | true=>simp only[cond_true];exact this
 rw[Lgq s hl,decide_eq_true (show(s.length:Int)>63 by omega)]
 rfl
def domF(s:Str):Int:=if s.length>253 then 2 else if (Lib.split s [46]).all isLabB then 0 else 5
theorem Lgv(sep:List UInt8):∀ (k:Nat) (s:List UInt8) (x:List UInt8),x∈Lib.splitK sep 0 k s→x.length≤s.length
 | 0,s,x,h=>by simp[Lib.splitK] at h;rw[h];exact Nat.le_refl _
 | k+1,s,x,h=>by
  unfold Lib.splitK at h
  split at h
  ·simp at h;rw[h];exact Nat.le_refl _
  rcases List.mem_cons.1 h with rfl | h
  ·simp;omega
  have:=Lgv sep k _ x h
  simp at this
  omega
theorem Kvh(l:List (List UInt8)):(l.map fun x=>Value.string ⟨x.toArray⟩).map D.v=l.flatMap eS:=by
 induction l with
 | nil=>rfl
 | cons x l ih=>simp only[List.map_cons,List.flatMap_cons,ih];rfl
theorem Lgw(s:Str):∀ x∈Lib.split s [46],x.length≤s.length:=fun x hx=>Lgv [46] _ s x hx
theorem Lgx(k:Nat)(s:Str)(hs:s.length≤1000000):Kzf (k+2) s=some (domF s):=by
 unfold Kzf Kts domF
 by_cases hl:s.length>253
 ·rw[if_pos hl,decide_eq_true (show(s.length:Int)>253 by omega)];rfl
 rw[if_neg hl,decide_eq_false (show ¬ (s.length:Int)>253 by omega)]
 simp only[cond_false]
 rw[nblt.2 (show s.length<4294967281 by omega)]
 simp only[gd_true,bi_some]
 rw[Kwu isLabB 5 _ 0 (fun j x hx=>by
  have:=Lgw s x (List.mem_of_getElem? hx)
  rw[Lgt k x (by omega)]
  cases isLabB x<;>rfl)]
 cases (Lib.split s [46]).all isLabB<;>rfl
theorem Lgy(s:Str)(hs:s.length≤1000000):Lad s=some (domF s):=by
 unfold Lad Kts domF
 by_cases hl:s.length>253
 ·rw[if_pos hl,decide_eq_true (show(s.length:Int)>253 by omega)];rfl
 rw[if_neg hl,decide_eq_false (show ¬ (s.length:Int)>253 by omega)]
 simp only[cond_false]
 rw[nblt.2 (show s.length<4294967281 by omega)]
 simp only[gd_true,bi_some]
 rw[Kwu isLabB 5 _ 0 (fun j x hx=>by
  have:=Lgw s x (List.mem_of_getElem? hx)
  rw[Lgu x (by omega)]
  cases isLabB x<;>rfl)]
 cases (Lib.split s [46]).all isLabB<;>rfl
end Go.Gk.ZZ
namespace Go.Gk.ZZ
def UP(name z:Str):Prop:=z=[]∨name=z∨∃ u,name=u++46 :: z
theorem UP.suf{name z:Str}(h:UP name z):z <:+ name:=by
 rcases h with rfl | rfl | ⟨u,rfl⟩
 ·exact List.nil_suffix
 ·exact List.suffix_refl _
 exact⟨u++[46],by simp⟩
theorem UP.eq{name a b:Str}(ha:UP name a)(hb:UP name b)(h:a.length=b.length):a=b:=
 (List.suffix_of_suffix_length_le ha.suf hb.suf (Nat.le_of_eq h)).eq_of_length h
def after(s:Str):Str:=(cut1 s 46).2.1
theorem Lgz:∀ s:Str,(∃ w,s=w++46 :: after s∧46 ∉ w)∨(46 ∉ s∧after s=[]):=by
 have key:∀ s:Str,(∃ w:Str,Lib.indexByte s 46=(w.length:Int)∧s=w++46 :: s.drop (w.length+1)∧(46:UInt8) ∉ w)∨(Lib.indexByte s 46=-1∧(46:UInt8) ∉ s):=by
  intro s
  induction s with
  | nil=>exact .inr ⟨rfl,by simp⟩
  | cons b s ih=>
   by_cases hb:b=46
   ·subst hb
    exact .inl ⟨[],by simp[Lib.indexByte],by simp,by simp⟩
   have hb':(b==46)=false:=by simpa using hb
   have hb2:(46:UInt8)≠b:=fun e=>hb e.symm
   unfold Lib.indexByte
   rw[hb']
   rcases ih with⟨w,h1,h2,h3⟩ | ⟨h1,h2⟩
   ·left
    refine⟨b :: w,?_,?_,?_⟩
    ·rw[h1]
     have:((w.length:Int)==-1)=false:=by
      rw[beq_eq_false_iff_ne];omega
     simp[this]
    ·simpa using h2
    simp[hb2,h3]
   right
   rw[h1]
   exact⟨by simp,by simp[hb2,h2]⟩
 intro s
 unfold after cut1
 rcases key s with⟨w,h1,h2,h3⟩ | ⟨h1,h2⟩
 ·left
  rw[h1,if_pos (by omega)]
  exact⟨w,by simpa using h2,h3⟩
 right
 rw[h1,if_neg (by omega)]
 exact⟨h2,rfl⟩
theorem UP.after{name s:Str}(h:UP name s)(hs:s≠[]):UP name (after s):=by
 rcases Lgz s with⟨w,e,hw⟩ | ⟨_,e⟩
 ·rcases h with rfl | rfl | ⟨u,rfl⟩
  ·exact absurd rfl hs
  ·exact .inr (.inr ⟨w,e⟩)
  exact .inr (.inr ⟨u++46 :: w,by rw[List.append_assoc,List.cons_append,←e]⟩)
 rw[e];exact .inl rfl
theorem Lha(name z:Str)(h1:name.length≤1000000)(h2:z.length≤1000000):∃ b,Kzo name z=some b∧(z=[]∨b=true ↔ UP name z):=by
 unfold Kzo Ktq
 rw[Lgk (by simp;omega)]
 simp only[bi_some,Nat.ble_eq_true_of_le (show name.length≤1099511627776 by omega),gd_true]
 cases he:(name==z) with
 | true=>
  have:name=z:=by simpa using he
  exact⟨true,rfl,fun _=>.inr (.inl this),fun _=>.inr rfl⟩
 | false=>
  have hne:name≠z:=by simpa using he
  refine⟨_,rfl,?_⟩
  simp only[Lib.hasSuffix,List.isSuffixOf_iff_suffix]
  constructor
  ·rintro(rfl | ⟨u,e⟩)
   ·exact .inl rfl
   exact .inr (.inr ⟨u,by simpa using e.symm⟩)
  rintro(rfl | e | ⟨u,e⟩)
  ·exact .inl rfl
  ·exact absurd e hne
  exact .inr ⟨u,by simpa using e.symm⟩
theorem Kwy{α σ:Type}{f:Nat→α→σ→Option σ}(I:Nat→σ→Prop)(l0:List α)(s:σ)(h0:I 0 s)(st:∀ j x s,l0[j]?=some x→I j s→∃ s',f j x s=some s'∧I (j+1) s'):∃ r,rangeF f 0 l0 s=some r∧I l0.length r:=by
 have key:∀ (l:List α) (i:Nat) (s:σ),(∀ j,l[j]?=l0[i+j]?)→I i s→∃ r,rangeF f i l s=some r∧I (i+l.length) r:=by
  intro l
  induction l with
  | nil=>intro i s _ h;exact⟨s,rfl,h⟩
  | cons x l ih=>
   intro i s hl h
   obtain⟨s',h1,h2⟩:=st i x s (by have:=hl 0;simpa using this.symm) h
   obtain⟨r,h3,h4⟩:=ih (i+1) s' (fun j=>by have:=hl (j+1);rw[List.getElem?_cons_succ] at this;rw[this];congr 1;omega) h2
   refine⟨r,by simp only[rangeF,h1,bi_some,h3],?_⟩
   rw[List.length_cons,show i+(l.length+1)=i+1+l.length by omega]
   exact h4
 obtain⟨r,h1,h2⟩:=key l0 0 s (fun j=>by rw[Nat.zero_add]) h0
 exact⟨r,h1,by rwa [Nat.zero_add] at h2⟩
theorem Lhb{α ρ:Type}{f g:Nat→α→Unit→Option (LS Unit ρ)}(p:ρ→Prop):∀ (l:List α) (i:Nat),(∀ j x,j<i+l.length→x∈l→∃ y,f j x ()=some y∧g j x ()=some y∧∀ v,y=.out v→p v)→∃ r,rangeM f i l ()=some r∧rangeM g i l ()=some r∧∀ v,r=.out v→p v
 | [],i,_=>⟨_,rfl,rfl,fun v h=>by cases h⟩
 | x :: l,i,h=>by
  obtain⟨y,h1,h2,h3⟩:=h i x (by simp) List.mem_cons_self
  simp only[rangeM,h1,h2]
  cases y with
  | out r=>exact⟨_,rfl,rfl,fun v h=>by cases h;exact h3 _ rfl⟩
  | go s'=>exact Lhb p l (i+1) fun j y hj hy=>h j y (by simp only[List.length_cons];omega) (List.mem_cons_of_mem _ hy)
end Go.Gk.ZZ
