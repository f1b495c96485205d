import Derived.Test.YtmecneoeklldeaaGreatDoorCCond
set_option linter.all false
set_option maxRecDepth 100000
namespace Go.Gk
theorem Kas{s:Str}{p:UInt8→Bool}{f:Int→Option (LS Int Int)}(hf:∀ (i:Nat) (c:UInt8),s[i]?=some c→f (i:Int)=some (if p c then .go ((i+1:Nat):Int) else .out (i:Int)))(hend:f (s.length:Int)=some (.out (s.length:Int))) :
  ∀ (n k i:Nat),n=s.length - i→i≤s.length→n<k→loopM f k (i:Int)=some ((i+((s.drop i).takeWhile p).length:Nat):Int)
 | n,0,i,_,_,h=>absurd h (Nat.not_lt_zero _)
 | n,k+1,i,hn,hi,hk=>by
  by_cases he:i<s.length
  ·have hx:s[i]?=some s[i]:=gGe he
   have hdr:s.drop i=s[i] :: s.drop (i+1):=List.drop_eq_getElem_cons he
   have hs:=hf i _ hx
   rw[hdr]
   cases hp:p s[i] with
   | false=>
    rw[hp] at hs
    rw[Kcs _ hs,List.takeWhile_cons,hp]
    rfl
   | true=>
    rw[hp] at hs
    rw[Kcr _ hs,List.takeWhile_cons,hp,Kas hf hend (n - 1) k (i+1) (by omega) (by omega) (by omega)]
    simp only[if_true,List.length_cons]
    congr 2
    omega
  ·obtain rfl:i=s.length:=by omega
   rw[List.drop_length]
   exact Kcs _ hend
theorem Kat{p:UInt8→Bool}(l:Str):(l.takeWhile p).length≤l.length:=by
 have:=congrArg List.length (List.takeWhile_append_dropWhile (p:=p) (l:=l))
 rw[List.length_append] at this
 omega
theorem Kau{p:UInt8→Bool}:∀ (l:Str),l.take (l.takeWhile p).length=l.takeWhile p
 | []=>rfl
 | c :: l=>by
  rw[List.takeWhile_cons]
  cases h:p c with
  | false=>rfl
  | true=>simp[Kau l]
theorem Kav{p:UInt8→Bool}:∀ (l:Str) (b:UInt8),b∈l.takeWhile p→p b=true
 | c :: l,b,h=>by
  rw[List.takeWhile_cons] at h
  cases hp:p c with
  | false=>rw[hp] at h;simp at h
  | true=>
   rw[hp] at h
   rcases List.mem_cons.1 h with rfl | h
   ·exact hp
   exact Kav l b h
theorem Kaw(z cs:Str)(p:UInt8→Bool)(hz:z.length≤50000)(hc:(Nat.blt cs.length 4294967281&&cs.all fun b=>Nat.blt b.toNat 128)=true)(hp:∀ c,cs.contains c=p c):Kzp z cs=some ((z.takeWhile p).length:Int):=by
 unfold Kzp Kpv
 rw[Nat.ble_eq_true_of_le (show z.length≤1099511627776 by omega),hc]
 show some (wi ((z.length:Int) - ((Lib.trimLeftS z cs).length:Int)))=_
 have h1:Lib.trimLeftS z cs=z.dropWhile p:=by
  unfold Lib.trimLeftS
  congr 1
  funext c
  exact hp c
 have h2:=congrArg List.length (List.takeWhile_append_dropWhile (p:=p) (l:=z))
 rw[List.length_append] at h2
 rw[h1,Kss (by omega) (by omega)]
 congr 1
 omega
def wsB(c:UInt8):Bool:=(c==32)||(c==10)
def dotB(c:UInt8):Bool:=isD c||(c==46)
def nmB(c:UInt8):Bool:=((decide (97≤c.toNat)&&decide (c.toNat≤122))||isD c||(c==45))||(c==95)
theorem Kax:∀ c:Fin 256,([32,10]:Str).contains (UInt8.ofNat c.val)=wsB (UInt8.ofNat c.val)∧([48,49,50,51,52,53,54,55,56,57,46]:Str).contains (UInt8.ofNat c.val)=dotB (UInt8.ofNat c.val)∧
  ([97,98,99,100,101,102,103,104,105,106,107,108,109,110,111,112,113,114,115,116,117,118,119,120,121,122,45,95,48,49,50,51,52,53,54,55,56,57]:Str).contains (UInt8.ofNat c.val)=nmB (UInt8.ofNat c.val):=by decide +kernel
theorem cls(c:UInt8):([32,10]:Str).contains c=wsB c∧([48,49,50,51,52,53,54,55,56,57,46]:Str).contains c=dotB c∧
  ([97,98,99,100,101,102,103,104,105,106,107,108,109,110,111,112,113,114,115,116,117,118,119,120,121,122,45,95,48,49,50,51,52,53,54,55,56,57]:Str).contains c=nmB c:=by
 have:=Kax ⟨c.toNat,c.toNat_lt⟩
 rw[UInt8.ofNat_toNat] at this
 exact this
theorem Kay{s:Str}{a i:Nat}:(s.drop a)[i]?=s[a+i]?:=by rw[List.getElem?_drop]
theorem Kaz(s:Str)(k i:Nat)(hs:s.length≤50000)(hi:i≤s.length)(hk:s.length<k):Kzc k s (i:Int)=some ((i+((s.drop i).takeWhile isD).length:Nat):Int):=by
 unfold Kzc
 rw[Kas (s:=s) (p:=isD) (fun i c hc=>by
  have hlt:=(gEs.1 hc).1
  rw[dT (show(i:Int)<(s.length:Int) by omega),cond_true,Kth hc]
  simp only[bi_some,Kap]
  rw[Kss (by omega) (by omega)]
  cases isD c<;>rfl) (by
  rw[dF (show ¬ (s.length:Int)<(s.length:Int) by omega)];rfl) (s.length - i) k i rfl hi (by omega)]
 rfl
theorem Kba(k:Nat)(hk:100<k)(s:Str):∃ n,Kza k s=some (n,numB s 9)∧(numB s 9=true→n=numV s):=by
 obtain⟨n,h1,h2⟩:=numP k hk s 9 (by decide)
 refine⟨n,?_,h2⟩
 unfold Kza
 rw[show(9:Int)=((9:Nat):Int) from rfl,h1]
 rfl
theorem Kbb(c:UInt8):(Kpp [48,49,50,51,52,53,54,55,56,57] (c.toNat:Int)).map (fun y=>decide (y≥0))=some (isD c):=by
 unfold Kpp
 have e:((c.toNat:Int)).toNat.toUInt8=c:=by simp
 rw[e]
 have h:=Kcn (c:=c) (s:=dgs)
 rw[Kbl] at h
 rw[←h]
 rfl
theorem Kbc(z:Str)(i:Nat):Kzr z (i:Int)=some (match z[i]? with | some c=>isD c | none=>false):=by
 unfold Kzr
 cases h:z[i]? with
 | none=>
  have:z.length≤i:=List.getElem?_eq_none_iff.1 h
  rw[dF (show ¬ (i:Int)<(z.length:Int) by omega)]
  rfl
 | some c=>
  have hlt:=(gEs.1 h).1
  rw[dT (show(i:Int)<(z.length:Int) by omega),cond_true,Kth h,bi_some]
  have:=Kbb c
  cases hm:Kpp [48,49,50,51,52,53,54,55,56,57] (c.toNat:Int) with
  | none=>rw[hm] at this;cases this
  | some y=>
   rw[hm] at this
   have:=oSi this
   simp only[bi_some]
   exact congrArg some this
def kVal:Str:=[118,97,108,117,101]
def kBad:Str:=[98,97,100]
def kEnd:Str:=[101,110,100]
def kName:Str:=[110,97,109,101]
theorem Kbd{s:Str}{a m:Nat}(h:a+m≤s.length):subZ s (a:Int) ((a+m:Nat):Int)=some ((s.drop a).take m):=by
 rw[Ktg (by omega) h]
 congr 1
 rw[List.drop_take]
 congr 1
 omega
theorem Kbe{s:Str}{a:Nat}(h:a≤s.length):subZ s (a:Int) (s.length:Int)=some (s.drop a):=by
 rw[Ktg h (Nat.le_refl _),List.take_length]
theorem Kbf{z:Str}{m:Nat}(h:m≤z.length):subZ z 0 (m:Int)=some (z.take m):=by
 have:=Ktg (l:=z) (i:=0) (j:=m) (Nat.zero_le _) h
 simpa using this
theorem Kbg{z:Str}(h:1≤z.length):subZ z 1 (z.length:Int)=some (z.drop 1):=by
 have:=Ktg (l:=z) (i:=1) (j:=z.length) h (Nat.le_refl _)
 simpa using this
def numM(z:Str):Nat:=1+((z.drop 1).takeWhile isD).length
theorem Kbh{z:Str}(h:0<z.length):numM z≤z.length:=by
 have:=Kat (p:=isD) (z.drop 1)
 rw[List.length_drop] at this
 unfold numM
 omega
theorem Lej(s:Str)(a k:Nat)(hs:s.length≤50000)(hk:s.length+200<k)(c:UInt8)(hc:s[a]?=some c)(h:(c==45)=true∨isD c=true) :
  Kzd k ⟨kBad,(a:Int),0,[],zA⟩ s=some (if numB ((s.drop a).take (numM (s.drop a))) 9 then⟨kVal,(a:Int),((a+numM (s.drop a):Nat):Int),[],⟨1,numV ((s.drop a).take (numM (s.drop a))),[],(0,0,0,0)⟩⟩ else⟨kBad,(a:Int),((a+numM (s.drop a):Nat):Int),[],zA⟩):=by
 have ha:=(gEs.1 hc).1
 have hM:=Kbh (z:=s.drop a) (by rw[List.length_drop];omega)
 rw[List.length_drop] at hM
 unfold Kzd
 have hd:∃ q3:Int,(bif ((c.toNat:Int):Int)==45 then(some (wi ((a:Int)+1))) else(some (a:Int)):Option Int)=some q3∧Kzc k s q3=some ((a+numM (s.drop a):Nat):Int):=by
  have e45:((c.toNat:Int)==45)=(c==45):=Kaq c 45 (by decide)
  rw[e45]
  cases h45:(c==45) with
  | true=>
   refine⟨((a+1:Nat):Int),by rw[cond_true,Kss (by omega) (by omega)];rfl,?_⟩
   rw[Kaz s k (a+1) hs (by omega) (by omega)]
   unfold numM
   rw[List.drop_drop]
   congr 2
   omega
  | false=>
   have hD:isD c=true:=by rcases h with h | h;rw[h45] at h;cases h;exact h
   refine⟨(a:Int),rfl,?_⟩
   rw[Kaz s k a hs (by omega) (by omega)]
   have hdr:s.drop a=c :: s.drop (a+1):=by
    rw[List.drop_eq_getElem_cons ha]
    congr 1
    have:=gGe ha
    rw[hc] at this
    exact(oSi this).symm
   unfold numM
   rw[hdr,List.takeWhile_cons,hD]
   simp only[if_true,List.length_cons,List.drop_one,List.tail_cons]
   congr 2
   omega
 obtain⟨q3,hq,hq2⟩:=hd
 rw[show getZ s ((⟨kBad,(a:Int),0,[],zA⟩:Kxe).v_at)=some c from Kth hc,bi_some]
 show bi (bif ((c.toNat:Int):Int)==45 then(some (wi ((a:Int)+1))) else(some (a:Int)):Option Int) _=_
 rw[hq,bi_some,hq2,bi_some]
 show bi (subZ s (a:Int) ((a+numM (s.drop a):Nat):Int)) _=_
 rw[Kbd (by omega),bi_some]
 obtain⟨n,n1,n2⟩:=Kba k (by omega) ((s.drop a).take (numM (s.drop a)))
 rw[n1,bi_some]
 cases hN:numB ((s.drop a).take (numM (s.drop a))) 9 with
 | true=>rw[n2 hN];rfl
 | false=>rfl
def refNum(z:Str)(at':Int)(q:Str):Option (Kxf×Int):=bi (subZ z 1 (z.length:Int)) fun z51=>bi (Kzp z51 [48,49,50,51,52,53,54,55,56,57]) fun y53=>bi (subZ z 0 (wi (1+y53))) fun z55=>bi (Kzo z55 9) fun y57=>bif y57.2 then(some ((⟨[118],at',[],(⟨1,y57.1,[],(0,0,0,0)⟩:Kxc)⟩:Kxf),wi (1+y53))) else(some ((⟨q,at',[],(⟨0,0,[],(0,0,0,0)⟩:Kxc)⟩:Kxf),wi (1+y53)))
theorem Lek(z:Str)(at':Int)(q:Str)(hz:z.length≤50000)(h0:0<z.length) :
  refNum z at' q=some (if numB (z.take (numM z)) 9 then(⟨[118],at',[],⟨1,numV (z.take (numM z)),[],(0,0,0,0)⟩⟩,(numM z:Int)) else(⟨q,at',[],zA⟩,(numM z:Int))):=by
 unfold refNum
 have hM:=Kbh h0
 rw[Kbg h0,bi_some,Kaw (z.drop 1) [48,49,50,51,52,53,54,55,56,57] isD (by rw[List.length_drop];omega) (by decide) Kbl,bi_some]
 have e:wi (1+(((z.drop 1).takeWhile isD).length:Int))=(numM z:Int):=by
  unfold numM at hM ⊢
  rw[Kss (by omega) (by omega)]
  omega
 rw[e,Kbf hM,bi_some]
 obtain⟨n,n1,n2⟩:=numR (z.take (numM z)) 9 (by decide) (by rw[List.length_take];omega)
 rw[show(9:Int)=((9:Nat):Int) from rfl,n1,bi_some]
 cases hN:numB (z.take (numM z)) 9 with
 | true=>rw[n2 hN];rfl
 | false=>rfl
end Go.Gk
