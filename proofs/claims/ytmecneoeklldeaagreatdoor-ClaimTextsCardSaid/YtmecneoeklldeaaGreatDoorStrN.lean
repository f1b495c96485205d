import Derived.Test.YtmecneoeklldeaaGreatDoorMStrN
import Derived.Test.YtmecneoeklldeaaGreatDoorStr
import Derived.Test.YtmecneoeklldeaaGreatDoorStr9
set_option linter.all false
set_option maxRecDepth 100000
namespace Go.Gk
theorem EC.of_allocX{P:Program}{f:FuncId}{gs:List G}{vs:List Value}{n sz c:Nat}{xs:List Value}{cs:Array Value}{t:TypeId}(hv:plainV gs=some vs)(h1:∀ v∈xs,v.oneCell'=true)(hn:xs.length=n * sz)(hc:n≤c)(hs:cs.size=c * sz)(hx:∀ (j:Nat) (v:Value),xs[j]?=some v→cs[j]?=some v)(hm:c≤maxLen)
  (h:∀ w,TabX w→Calls P f vs.toArray w fun e w'=>e=.returned (.slice (some ⟨w.heap.size,0,none⟩) n c)∧w'=w.alloc (.cells cs t)):EC P f gs [] fun g hp'=>g=.sl 0 n∧hp'=[.row t sz n (xs.map D.v)]:=by
 intro Z w M vs' hr hsz hvs
 have:=Kfo hv hsz hvs
 subst this
 refine(h w (Z.ax w hr.amb)).mono ?_
 rintro e w' ⟨rfl,rfl⟩
 have hM:M.l=[]:=List.length_eq_zero_iff.1 (by simpa using hr.len)
 obtain⟨f1,f2,f3⟩:=Kos hr (.row t sz n (xs.map D.v)) cs t c fun w' O' hst hh=>⟨by simp[hn],_,hh,hs,hc,hm,fun j d hd=>by
  rw[gMp] at hd
  obtain⟨v,hv',rfl⟩:=oMs.1 hd
  exact⟨v,hx j v hv',.v v (h1 v (mOg hv'))⟩⟩
 exact⟨_,.sl 0 n,_,_,rfl,⟨rfl,rfl⟩,f1,.sl (c:=c) (by simp[hM]) hc hm,f2,f3⟩
end Go.Gk
namespace Go.Proofs.YtmecneoeklldeaaGreatDoor
open Go.Gk Go.Shelf Go.RowKit Go.Sort Go.Lib
theorem Ksp(s:List UInt8)(c:UInt8)(k:Nat)(hs:s.length<4294967281)(hk:1≤k)(hk2:k≤9223372036854775807):EC Tryz.prog 45 [S s,S [c],I (k:Int)] [] fun g hp'=>g=.sl 0 (Lib.splitN s [c] k).length∧hp'=[.row 9 1 (Lib.splitN s [c] k).length (((Lib.splitN s [c] k).map fun x=>Value.string ⟨x.toArray⟩).map D.v)]:=by
 have hsz:(⟨s.toArray⟩:ByteArray).size=s.length:=by simp
 have e0:(Lib.splitB ⟨#[c]⟩ 0 (min k (s.length+1) - 1) ⟨s.toArray⟩).map Value.string=(Lib.splitN s [c] k).map fun x=>Value.string ⟨x.toArray⟩:=by
  unfold Lib.splitN
  rw[show Lib.splitK [c] 0 (min k (s.length+1) - 1) s=Lib.splitK (⟨#[c]⟩:ByteArray).data.toList 0 (min k (s.length+1) - 1) (⟨s.toArray⟩:ByteArray).data.toList from rfl,←Lib.splitB_data,List.map_map]
  rfl
 have e1:(Lib.splitB ⟨#[c]⟩ 0 (min k (s.length+1) - 1) ⟨s.toArray⟩).length=(Lib.splitN s [c] k).length:=by
  have:=congrArg List.length e0
  simpa using this
 have hle:(Lib.splitN s [c] k).length≤min k (s.length+1):=by
  have:=Lib.splitB_length_le ⟨#[c]⟩ 0 (min k (s.length+1) - 1) ⟨s.toArray⟩
  omega
 refine EC.of_allocX (gs:=[S s,S [c],I (k:Int)]) (n:=(Lib.splitN s [c] k).length) (sz:=1) (c:=min k (s.length+1)) (vs:=[.string ⟨s.toArray⟩,.string ⟨#[c]⟩,.int .i64 k]) (xs:=(Lib.splitN s [c] k).map fun x=>Value.string ⟨x.toArray⟩)
  (cs:=Lib.cellsOf (Lib.splitB ⟨#[c]⟩ 0 (min k (s.length+1) - 1) ⟨s.toArray⟩) (min k (s.length+1))) rfl (fun v hv=>?_) (by simp) hle ?_ (fun j v hj=>?_) (by simp only[maxLen];omega) fun w hT=>?_
 ·obtain⟨x,_,rfl⟩:=List.mem_map.1 hv
  rfl
 ·rw[Lib.cellsOf_size (by rw[e1];exact hle),Nat.mul_one]
 ·rw[←e0] at hj
  unfold Lib.cellsOf
  have hl:=(gEs.1 hj).1
  simp only[List.getElem?_toArray]
  rw[gAl hl]
  exact hj
 obtain⟨m,hm⟩:=hT.2.1
 have c1:=Tryz.strings_SplitN ⟨s.toArray⟩ ⟨#[c]⟩ k m w (by simpa using hs) hm (Nat.le_refl _) hk hk2
 rw[hsz,e1] at c1
 exact c1
theorem Ksq{s sep:Str}{n:Int}{r:List Str}(h:Kpx s sep n=some r):EC Tryz.prog 45 [S s,S sep,I n] [] fun g hp'=>g=.sl 0 r.length∧hp'=[.row 9 1 r.length (r.flatMap eS)]:=by
 unfold Kpx at h
 split at h
 ·rename_i c k
  obtain⟨h1,h⟩:=Kgh h
  cases h
  simp only[Bool.and_eq_true] at h1
  have hc:=Ksp s c k (nblt.1 h1.1) (nBe h1.2.1) (nBe h1.2.2)
  rw[Kse] at hc
  exact hc
 cases h
theorem Ksr{s sep:Str}{r:Str×Str×Bool}(h:Kpk s sep=some r):Pure Tryz.prog 87 [S s,S sep] (.tup [S r.1,S r.2.1,B r.2.2]):=by
 unfold Kpk at h
 split at h
 ·rename_i c
  obtain⟨h1,h⟩:=Kgh h
  cases h;exact Krx s c (nBe h1)
 obtain⟨h1,h⟩:=Kgh h
 cases h
 refine EC.of_belowX rfl fun w hT=>?_
 obtain⟨m,hm⟩:=hT.2.1
 refine(Tryz.strings_Cut ⟨s.toArray⟩ ⟨sep.toArray⟩ m w (by have:=nblt.1 h1;simpa using this) hm).mono fun e w' ⟨he,n,hw⟩=>⟨_,_,he,rfl,fun O M=>.tup rfl fun j g v hg hv=>?_,?_⟩
 ·match j with
  | 0=>cases hg;cases hv;exact .d (.v _ rfl)
  | 1=>cases hg;cases hv;exact .d (.v _ rfl)
  | 2=>cases hg;cases hv;exact .d (.v _ rfl)
  | j+3=>cases hg
 subst hw
 simpa using Lib.below_grow w.heap.size w (Nat.le_refl _) n #[]
end Go.Proofs.YtmecneoeklldeaaGreatDoor
