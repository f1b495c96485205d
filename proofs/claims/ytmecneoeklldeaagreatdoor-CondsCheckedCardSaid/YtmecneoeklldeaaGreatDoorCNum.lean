import Derived.Test.YtmecneoeklldeaaGreatDoorCOk
import Derived.Lib.SplitLaws
set_option linter.all false
set_option maxRecDepth 100000
namespace Go.Gk
theorem Kcz(n a b:Int):Kwl n a b=some (decide (a≤n∧n≤b)):=by
 unfold Kwl
 congr 1
 rw[Bool.eq_iff_iff]
 simp
theorem Kda(p:UInt8→Bool):∀ l:Str,l.dropWhile p=[] ↔ ∀ x∈l,p x=true
 | []=>by simp
 | x :: r=>by
  rw[List.dropWhile_cons]
  cases h:p x with
  | true=>simp[h,Kda p r]
  | false=>simp[h]
theorem Kdb(t cs:Str):(Lib.trimS t cs==[])=t.all fun c=>cs.contains c:=by
 rw[Bool.eq_iff_iff,beq_iff_eq,lAe]
 unfold Lib.trimS Lib.trimLeftS
 rw[Kda]
 unfold Lib.trimRightS
 constructor
 ·intro h x hx
  have hs:t.reverse=t.reverse.takeWhile (cs.contains ·)++t.reverse.dropWhile (cs.contains ·):=(List.takeWhile_append_dropWhile).symm
  have hx':x∈t.reverse:=List.mem_reverse.2 hx
  rw[hs,List.mem_append] at hx'
  rcases hx' with hx' | hx'
  ·have:=lAe.1 (List.all_takeWhile (p:=(cs.contains ·)) (l:=t.reverse)) x hx'
   exact this
  exact h x (List.mem_reverse.2 hx')
 intro h x hx
 have:=(List.dropWhile_sublist (cs.contains ·)).subset (List.mem_reverse.1 hx)
 exact h x (List.mem_reverse.1 this)
def dgs:Str:=[48,49,50,51,52,53,54,55,56,57]
def isD(c:UInt8):Bool:=decide (48≤c.toNat)&&decide (c.toNat≤57)
theorem Kdc(u:Nat):Lib.itoa (u:Int)=Lib.decDigits u:=by unfold Lib.itoa;rw[if_neg (by omega)];simp
theorem Kdd(u:Nat)(h:1≤u):Lib.itoa (-(u:Int))=45 :: Lib.decDigits u:=by unfold Lib.itoa;rw[if_pos (by omega)];simp
def numB(s:Str)(most:Nat):Bool:=!(Lib.trimPrefix s [45]==[])&&(decide ((Lib.trimPrefix s [45]).length≤most)&&((Lib.trimPrefix s [45]).all isD&&!(((Lib.trimPrefix s [45])[0]?==some 48)&&!(s==[48]))))
def numV(s:Str):Int:=(Lib.atoi s).getD 0
theorem Kde(s cs:Str)(hs:s.length≤1000000)(hc:(Nat.blt cs.length 4294967281&&cs.all fun b=>Nat.blt b.toNat 128)=true):Kwm s cs=some (s.all fun c=>cs.contains c):=by
 unfold Kwm Kqm
 rw[Nat.ble_eq_true_of_le (show s.length≤1099511627776 by omega),hc]
 show some (Lib.trimS s cs==[])=_
 rw[Kdb]
theorem Kdf{n:Int}(h1 : -9223372036854775808≤n)(h2:n≤9223372036854775807):Kqv n=some (Lib.itoa n):=by
 unfold Kqv
 rw[dT h1,dT h2]
 rfl
def dLoop(y1:Str)(s12:Int):Option (LS Int (Unit ⊕ (Int×Bool))):=bif decide ((s12:Int)<(y1.length:Int)) then(bi (getZ y1 s12) fun c22=>bi (bif decide (((c22.toNat:Int):Int)<48) then(some true) else(bi (getZ y1 s12) fun c28=>some (decide (((c28.toNat:Int):Int)>57)))) fun q24=>bif q24 then(bi (some (0,false)) fun v=>some (.out (.inr v))) else(some (.go (wi (s12+1))))) else(some (.out (.inl ())))
def lows:Str:=[97,98,99,100,101,102,103,104,105,106,107,108,109,110,111,112,113,114,115,116,117,118,119,120,121,122]
def keys:Str:=[97,98,99,100,101,102,103,104,105,106,107,108,109,110,111,112,113,114,115,116,117,118,119,120,121,122,48,49,50,51,52,53,54,55,56,57,45,95]
def kB(i:Int)(c:UInt8):Bool:=(((decide (((c.toNat:Int):Int)≥97))&&(decide (((c.toNat:Int):Int)≤122)))||((decide ((i:Int)>0))&&((((decide (((c.toNat:Int):Int)≥48))&&(decide (((c.toNat:Int):Int)≤57)))||(((c.toNat:Int):Int)==45))||(((c.toNat:Int):Int)==95))))
theorem Kdg:∀ c:Fin 256,kB 0 (UInt8.ofNat c.val)=lows.contains (UInt8.ofNat c.val)∧kB 1 (UInt8.ofNat c.val)=keys.contains (UInt8.ofNat c.val)∧(lows.contains (UInt8.ofNat c.val)=true→keys.contains (UInt8.ofNat c.val)=true):=by decide +kernel
theorem Kdh(c:UInt8):kB 0 c=lows.contains c∧(lows.contains c=true→keys.contains c=true):=by
 have:=Kdg ⟨c.toNat,c.toNat_lt⟩
 rw[UInt8.ofNat_toNat] at this
 exact⟨this.1,this.2.2⟩
theorem Kdi(i:Nat)(h:0<i)(c:UInt8):kB (i:Int) c=keys.contains c:=by
 have:=(Kdg ⟨c.toNat,c.toNat_lt⟩).2.1
 rw[UInt8.ofNat_toNat] at this
 rw[←this]
 unfold kB
 rw[dT (show(i:Int)>0 by omega),dT (show(1:Int)>0 by decide)]
def kLoop(s:Str)(s2:Int):Option (LS Int (Unit ⊕ Bool)):=bif decide ((s2:Int)<(s.length:Int)) then(bi (getZ s s2) fun c12=>bif !(kB s2 c12) then(bi (some false) fun v=>some (.out (.inr v))) else(some (.go (wi (s2+1))))) else(some (.out (.inl ())))
theorem Kdj(k:Nat)(s:Str):Kvn k s=bi (loopM (kLoop s) k 0) fun q=>orI q fun a6=>some ((!((s:Str)==[]))&&(decide (((s.length:Int):Int)≤40))):=rfl
theorem Kdk(s:Str)(hl:s.length≤100000)(i:Nat)(hi:i<s.length):kLoop s (i:Int)=some (if kB (i:Int) s[i] then .go ((i+1:Nat):Int) else .out (.inr false)):=by
 have hg:getZ s (i:Int)=some s[i]:=Kuh (gGe hi)
 unfold kLoop
 rw[dT (show(i:Int)<(s.length:Int) by omega),cond_true,Kdt hg,Ktr (by omega) (by omega)]
 cases kB (i:Int) s[i]<;>rfl
theorem Kdl(s:Str):kLoop s (s.length:Int)=some (.out (.inl ())):=by
 unfold kLoop
 rw[dF (show ¬ (s.length:Int)<(s.length:Int) by omega)]
 rfl
theorem Kdm(s:Str)(hl:s.length≤100000):∀ (n k i:Nat),n=s.length - i→0<i→i≤s.length→n<k→loopM (kLoop s) k (i:Int)=some (if (s.drop i).all (fun c=>keys.contains c) then .inl () else .inr false)
 | n,0,i,_,_,_,h=>absurd h (Nat.not_lt_zero _)
 | n,k+1,i,hn,h0,hi,hk=>by
  by_cases he:i<s.length
  ·have hdr:s.drop i=s[i] :: s.drop (i+1):=List.drop_eq_getElem_cons he
   have hstep:=Kdk s hl i he
   rw[Kdi i h0] at hstep
   rw[hdr,List.all_cons]
   cases hD:keys.contains s[i] with
   | false=>
    rw[hD] at hstep
    exact Kds _ hstep
   | true=>
    rw[hD] at hstep
    rw[Kdr _ hstep,Bool.true_and]
    exact Kdm s hl (n - 1) k (i+1) (by omega) (by omega) (by omega) (by omega)
  have:i=s.length:=by omega
  subst this
  rw[List.drop_length]
  exact Kds _ (Kdl s)
def keyB(s:Str):Bool:=decide (1≤s.length∧s.length≤40)&&((s.take 1).all (fun c=>lows.contains c)&&s.all (fun c=>keys.contains c))
theorem keyP(k:Nat)(s:Str)(hs:s.length≤50000)(hk:s.length+1<k):Kvn k s=some (keyB s):=by
 rw[Kdj]
 obtain⟨k,rfl⟩:∃ k',k=k'+1:=⟨k - 1,by omega⟩
 cases s with
 | nil=>rfl
 | cons c t=>
  have h1:kLoop (c :: t) 0=some (if lows.contains c=true then .go ((1:Nat):Int) else .out (.inr false)):=by
   refine(Kdk (c :: t) (by omega) 0 (by simp)).trans ?_
   show some (if kB 0 c=true then LS.go ((1:Nat):Int) else LS.out (Sum.inr false))=_
   rw[(Kdh c).1]
  unfold keyB
  simp only[List.take_succ_cons,List.take_zero,List.all_cons,List.all_nil,Bool.and_true]
  cases hc:lows.contains c with
  | false=>
   rw[hc] at h1
   rw[Kdt (Kds _ h1),Bool.false_and,Bool.and_false]
   rfl
  | true=>
   rw[hc] at h1
   have h2:=Kdm (c :: t) (by omega) ((c :: t).length - 1) k 1 rfl (by decide) (by simp) (by simp at hk ⊢;omega)
   rw[List.drop_one,List.tail_cons] at h2
   rw[Kdt ((Kdr _ h1).trans h2),(Kdh c).2 hc,Bool.true_and,Bool.true_and]
   cases t.all fun c=>keys.contains c with
   | false=>rw[Bool.and_false];rfl
   | true=>
    rw[Bool.and_true]
    show some ((!((c :: t:Str)==[]))&&(decide ((((c :: t).length:Int):Int)≤40)))=_
    rw[Kdu,dF (show ¬ (c :: t).length=0 by simp)]
    congr 1
    rw[Bool.not_false,Bool.true_and]
    refine decide_eq_decide.2 ?_
    simp only[List.length_cons]
    omega
theorem keyR(s:Str)(hs:s.length≤50000):Kwn s=some (keyB s):=by
 unfold Kwn keyB
 rw[Kdt (Kcz _ 1 40)]
 by_cases h:1≤s.length∧s.length≤40
 ·rw[dT h,dT (show(1:Int)≤(s.length:Int)∧(s.length:Int)≤40 by omega),cond_true]
  have h1:subZ s 0 1=some (s.take 1):=by
   have:=Kug (l:=s) (i:=0) (j:=1) (by decide) h.1
   simpa using this
  have h2:=Kde (s.take 1) lows (by simp;omega) (by decide)
  have h3:=Kde s keys (by omega) (by decide)
  rw[Kdt h1]
  rw[show Kwm (s.take 1) [97,98,99,100,101,102,103,104,105,106,107,108,109,110,111,112,113,114,115,116,117,118,119,120,121,122]=_ from h2]
  cases (s.take 1).all fun c=>lows.contains c with
  | false=>rfl
  | true=>
   simp only[bi_some,cond_true,Bool.true_and]
   rw[show Kwm s [97,98,99,100,101,102,103,104,105,106,107,108,109,110,111,112,113,114,115,116,117,118,119,120,121,122,48,49,50,51,52,53,54,55,56,57,45,95]=_ from h3]
   rfl
 rw[dF h,dF (show ¬ ((1:Int)≤(s.length:Int)∧(s.length:Int)≤40) by omega)]
 rfl
theorem Kdn{c:UInt8}:∀ {s:Str},(∀ b∈s,b≠c)→Lib.indexByte s c=-1
 | [],_=>rfl
 | b :: s,h=>by
  have h1:(b==c)=false:=by simpa using h b mCs
  have ih:=Kdn (s:=s) fun c hc=>h c (mCo _ hc)
  simp[Lib.indexByte,h1,ih]
theorem Kdo{c:UInt8}:∀ {x:Str} (t:Str),(∀ b∈x,b≠c)→Lib.indexByte (x++c :: t) c=(x.length:Int)
 | [],t,_=>by simp[Lib.indexByte]
 | b :: x,t,h=>by
  have h1:(b==c)=false:=by simpa using h b mCs
  have ih:=Kdo (x:=x) t fun c hc=>h c (mCo _ hc)
  simp only[List.cons_append,Lib.indexByte,h1,ih,List.length_cons]
  rw[if_neg (by decide),if_neg (by simp)]
  omega
theorem Kdp(c:UInt8):∀ s:Str,(∀ b∈s,b≠c)∨∃ x t,s=x++c :: t∧∀ b∈x,b≠c
 | []=>.inl fun b hb=>by cases hb
 | a :: s=>by
  by_cases ha:a=c
  ·exact .inr ⟨[],s,by rw[ha];rfl,fun b hb=>by cases hb⟩
  rcases Kdp c s with h | ⟨x,t,h1,h2⟩
  ·refine .inl fun b hb=>?_
   rcases List.mem_cons.1 hb with rfl | hb
   ·exact ha
   exact h b hb
  refine .inr ⟨a :: x,t,by rw[h1];rfl,fun b hb=>?_⟩
  rcases List.mem_cons.1 hb with rfl | hb
  ·exact ha
  exact h2 b hb
theorem Kdq{a b:Str}(h:a.length+b.length≤9223372036854775807):catZ a b=some (a++b):=by unfold catZ;rw[Nat.ble_eq_true_of_le h];rfl
end Go.Gk
