import Derived.Test.YtfnjahjbpaoepaaGreatDoorZSort
set_option linter.all false
set_option maxRecDepth 100000
namespace Go.Gk
open ZZ
def plC(c:UInt8):Bool:=!(decide ((c.toNat:Int)<32)||((c.toNat:Int)==127))
def plLoop(s:Str)(s2:Int):Option (LS Int (Unit ⊕ Bool)):=bif decide ((s2:Int)<(s.length:Int)) then(bi (getZ s s2) fun c12=>bi (bif decide (((c12.toNat:Int):Int)<32) then(some true) else(bi (getZ s s2) fun c18=>some (((c18.toNat:Int):Int)==127))) fun q14=>bif q14 then(bi (some false) fun v=>some (.out (.inr v))) else(some (.go (wi (s2+1))))) else(some (.out (.inl ())))
theorem jgo{σ ρ:Type}{f:σ→Option (LS σ ρ)}{k:Nat}{s:σ}(s':σ)(h:f s=some (.go s')):loopM f (k+1) s=loopM f k s':=by simp only[loopM,h]
theorem jout{σ ρ:Type}{f:σ→Option (LS σ ρ)}{k:Nat}{s:σ}(r:ρ)(h:f s=some (.out r)):loopM f (k+1) s=some r:=by simp only[loopM,h]
theorem jeq{α β:Type}{x:Option α}{f:α→Option β}{v:α}(h:x=some v):bi x f=f v:=by rw[h];rfl
theorem Ksi(s:Str)(hl:s.length≤100000)(i:Nat)(hi:i<s.length):plLoop s (i:Int)=some (if plC s[i] then .go ((i+1:Nat):Int) else .out (.inr false)):=by
 have hg:getZ s (i:Int)=some s[i]:=by rw[getZ_cast];exact gGe hi
 unfold plLoop plC
 rw[dT (show(i:Int)<(s.length:Int) by omega),cond_true,jeq hg,hg]
 have hw:wi ((i:Int)+1)=((i+1:Nat):Int):=by rw[Kwl (by omega) (by omega)];omega
 rw[hw]
 cases decide ((s[i].toNat:Int)<32) with
 | true=>rfl
 | false=>
  simp only[cond_false,bi_some,Bool.false_or]
  cases ((s[i].toNat:Int)==127)<;>rfl
theorem Ksj(s:Str)(hl:s.length≤100000):∀ (n k i:Nat),n=s.length - i→i≤s.length→n<k→loopM (plLoop s) k (i:Int)=some (if (s.drop i).all plC then .inl () else .inr false)
 | n,0,i,_,_,h=>absurd h (Nat.not_lt_zero _)
 | n,k+1,i,hn,hi,hk=>by
  by_cases he:i<s.length
  ·have hdr:s.drop i=s[i] :: s.drop (i+1):=List.drop_eq_getElem_cons he
   have hstep:=Ksi s hl i he
   rw[hdr,List.all_cons]
   cases hD:plC s[i] with
   | false=>
    rw[hD] at hstep
    exact jout _ hstep
   | true=>
    rw[hD] at hstep
    rw[jgo _ hstep,Bool.true_and]
    exact Ksj s hl (n - 1) k (i+1) (by omega) (by omega) (by omega)
  have:s.drop i=[]:=List.drop_eq_nil_of_le (by omega)
  rw[this]
  refine jout _ ?_
  unfold plLoop
  rw[dF (show ¬ (i:Int)<(s.length:Int) by omega)]
  rfl
theorem Ksk(k:Nat)(s:Str):Kzl k s=bi (loopM (plLoop s) k 0) fun q=>orI q fun a6=>bi (Ktw s) fun y25=>bi (bif y25 then(bi (Ktr s [32]) fun y30=>some ((y30:Str)==s)) else(some false)) fun q27=>bi (bif q27 then(bi (Ktx s [32,32]) fun y36=>some (!y36)) else(some false)) fun q33=>some q33:=rfl
def plB(s:Str):Bool:=s.all plC&&(Lib.validD s&&((Lib.trimS s [32]==s)&&!Lib.contains s [32,32]))
theorem Lik(s:Str)(hs:s.length≤39000):(bi (Ktw s) fun y25=>bi (bif y25 then(bi (Ktr s [32]) fun y30=>some ((y30:Str)==s)) else(some false)) fun q27=>bi (bif q27 then(bi (Ktx s [32,32]) fun y36=>some (!y36)) else(some false)) fun q33=>some q33)=some (Lib.validD s&&((Lib.trimS s [32]==s)&&!Lib.contains s [32,32])):=by
 have h1:Ktw s=some (Lib.validD s):=by unfold Ktw;rw[Nat.ble_eq_true_of_le (by omega)];rfl
 have h2:Ktr s [32]=some (Lib.trimS s [32]):=by unfold Ktr;rw[Nat.ble_eq_true_of_le (by omega)];rfl
 have h3:Ktx s [32,32]=some (Lib.contains s [32,32]):=by unfold Ktx;rw[show Nat.blt s.length 4294967281=true from by rw[Nat.blt_eq];omega];rfl
 rw[jeq h1,h2,h3]
 cases Lib.validD s with
 | false=>rfl
 | true=>
  simp only[cond_true,bi_some,Bool.true_and]
  cases (Lib.trimS s [32]==s)<;>rfl
theorem Lil(s:Str)(hs:s.length≤39000):(bi (Ktw s) fun y25=>bi (bif y25 then(bi (Ktr s [32]) fun y30=>some ((s:Str)==y30)) else(some false)) fun q27=>bi (bif q27 then(bi (Ktx s [32,32]) fun y36=>some (!y36)) else(some false)) fun q33=>some q33)=some (Lib.validD s&&((Lib.trimS s [32]==s)&&!Lib.contains s [32,32])):=by
 have h1:Ktw s=some (Lib.validD s):=by unfold Ktw;rw[Nat.ble_eq_true_of_le (by omega)];rfl
 have h2:Ktr s [32]=some (Lib.trimS s [32]):=by unfold Ktr;rw[Nat.ble_eq_true_of_le (by omega)];rfl
 have h3:Ktx s [32,32]=some (Lib.contains s [32,32]):=by unfold Ktx;rw[show Nat.blt s.length 4294967281=true from by rw[Nat.blt_eq];omega];rfl
 rw[jeq h1,h2,h3]
 cases Lib.validD s with
 | false=>rfl
 | true=>
  simp only[cond_true,bi_some,Bool.true_and]
  rw[show(s==Lib.trimS s [32])=(Lib.trimS s [32]==s) from by rw[Bool.eq_iff_iff,beq_iff_eq,beq_iff_eq];exact⟨Eq.symm,Eq.symm⟩]
  cases (Lib.trimS s [32]==s)<;>rfl
theorem Lim(s:Str)(hs:s.length≤39000):Kzl 40000 s=some (plB s):=by
 have h:=Ksj s (by omega) s.length 40000 0 (by omega) (by omega) (by omega)
 rw[List.drop_zero] at h
 rw[Ksk,show(0:Int)=((0:Nat):Int) from rfl,jeq h]
 unfold plB
 cases s.all plC with
 | false=>rfl
 | true=>
  simp only[if_true,orI,Bool.true_and]
  exact Lik s hs
theorem Lin(s:Str)(hs:s.length≤39000):Lai s=some (plB s):=by
 unfold Lai plB
 have hr:rangeI (σ:=Unit) (ρ:=Bool) (fun i1 s2=>bi (getZ s (i1:Int)) fun c13=>bi (bif decide (((c13.toNat:Int):Int)<32) then(some true) else(bi (getZ s (i1:Int)) fun c19=>some (((c19.toNat:Int):Int)==127))) fun q15=>bif q15 then(bi (some false) fun v=>some (.out v)) else(some (.go ()))) (s.length:Int) ()=some (if s.all plC then .go () else .out false):=by
  refine ZZ.Kwv plC false s fun i x hx=>?_
  have hg:getZ s (i:Int)=some x:=by rw[getZ_cast];exact hx
  rw[jeq hg,hg]
  unfold plC
  cases decide ((x.toNat:Int)<32) with
  | true=>rfl
  | false=>
   simp only[cond_false,bi_some,Bool.false_or]
   cases ((x.toNat:Int)==127)<;>rfl
 rw[hr,dT (show(s.length:Int)≤9223372036854775807 by omega),gd_true,bi_some]
 cases s.all plC with
 | false=>rfl
 | true=>
  simp only[if_true,goI,Bool.true_and]
  exact Lil s hs
end Go.Gk
