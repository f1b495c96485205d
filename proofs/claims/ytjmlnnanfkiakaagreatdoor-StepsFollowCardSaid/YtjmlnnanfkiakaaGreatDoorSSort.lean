import Derived.Test.YtjmlnnanfkiakaaGreatDoorSLog
set_option linter.unusedVariables false
set_option linter.unusedSimpArgs false
set_option linter.unusedSectionVars false
set_option maxRecDepth 100000
namespace Go.Gk
theorem loop_out {σ ρ:Type} {f:σ→Option (LS σ ρ)} {s:σ} {r:ρ} (h:f s=some (.out r)):loopM f 400 s=some r:=by
 show loopM f (399+1) s=_
 simp only [loopM,h]
def Kin (data r:List Kbb):Prop:=r.length=data.length∧∀ x∈r,x∈data
theorem Kin.set {data r:List Kbb} (h:Kin data r) {i:Nat} {x:Kbb} (hx:x∈data):Kin data (r.set i x):=
 ⟨by rw [List.length_set]; exact h.1,fun y hy=>by
  rcases List.mem_or_eq_of_mem_set hy with h1 | rfl
  ·exact h.2 y h1
  ·exact hx⟩
theorem ins_inner_o (data:List Kbb) (k:Nat) (hk:data.length<k) (hl:data.length≤1000) (s:(List Kbb)×Int) (hs:Kin data s.1∧0≤s.2∧s.2<data.length) :
  Ok (loopM (σ:=(List Kbb)×Int) (ρ:=List Kbb) (fun s13=>bi (bif decide ((s13.2:Int)>0) then (bi (getZ s13.1 s13.2) fun x25=>bi (getZ s13.1 (wi (s13.2 - 1))) fun x28=>bi (Kcb x25 x28) fun y31=>some (decide ((y31:Int)<0))) else (some false)) fun q22=>bif q22 then (bi (getZ s13.1 (wi (s13.2 - 1))) fun x35=>bi (getZ s13.1 s13.2) fun x38=>bi (getZ s13.1 s13.2) fun x41=>bi (getZ s13.1 (wi (s13.2 - 1))) fun x44=>bi (getZ (s13.1.set s13.2.toNat x35) (((wi (s13.2 - 1)).toNat:Nat):Int)) fun x47=>some (.go ((s13.1.set s13.2.toNat x35).set ((wi (s13.2 - 1)).toNat) x38,wi (s13.2 - 1)))) else (some (.out s13.1))) k s) (Kin data):=by
 refine ok_loopM (fun s:(List Kbb)×Int=>Kin data s.1∧0≤s.2∧s.2<(data.length:Int)) (fun s=>s.2.toNat) (Kin data) hs (by omega) fun s13 hI=>?_
 obtain ⟨h1,h2,h3⟩:=hI
 have hj:s13.2.toNat<s13.1.length:=by rw [h1.1]; omega
 by_cases h0:s13.2>0
 ·have hw:wi (s13.2 - 1)=((s13.2.toNat - 1:Nat):Int):=by rw [wi_id (by omega) (by omega)]; omega
  have e1:getZ s13.1 s13.2=some (s13.1[s13.2.toNat]):=getZ_wi (j:=s13.2.toNat) (by omega) (List.getElem?_eq_getElem hj)
  have e2:getZ s13.1 (wi (s13.2 - 1))=some (s13.1[s13.2.toNat - 1]'(by omega)):=getZ_wi (j:=s13.2.toNat - 1) hw (List.getElem?_eq_getElem (by omega))
  rw [decide_eq_true h0,cond_true,e1,e2]
  obtain ⟨c,hc⟩:=ord_ok (s13.1[s13.2.toNat]) (s13.1[s13.2.toNat - 1]'(by omega))
  refine ok_eq (r:=decide (c<0)) (by rw [bi_some,bi_some,hc]; rfl) ?_
  refine ok_bif (fun _=>?_) fun _=>ok_some h1
  simp only [bi_some]
  refine ok_get (j:=s13.2.toNat - 1) (x:=s13.1[s13.2.toNat - 1]'(by omega)) (by rw [hw,Int.toNat_natCast]) (by rw [List.getElem?_set_ne (by omega)]; exact List.getElem?_eq_getElem _) (ok_some ⟨⟨?_,?_,?_⟩,?_⟩)
  ·exact (h1.set (h1.2 _ (List.getElem_mem _))).set (h1.2 _ (List.getElem_mem _))
  ·rw [hw]; omega
  ·rw [hw]; omega
  ·simp only [hw]; omega
 ·rw [decide_eq_false h0,cond_false,bi_some,cond_false]
  exact ok_some h1
theorem ins_o (data:List Kbb) (k:Nat) (hk:data.length<k) (hl:data.length≤1000):Ok (Kcc k data 0 (data.length:Int)) (Kin data):=by
 unfold Kcc
 refine ok_bi (P:=Kin data) (ok_loopM (fun s:(List Kbb)×Int=>Kin data s.1∧1≤s.2) (fun s=>((data.length:Int) - s.2).toNat) (Kin data) ⟨⟨rfl,fun x h=>h⟩,Int.le_refl 1⟩ (by
  show ((data.length:Int) - wi (0+1)).toNat<k
  have:wi (0+1)=1:=rfl
  omega) fun s hI=>?_) fun r hr=>ok_some hr
 refine ok_bif (fun h=>?_) fun _=>ok_some hI.1
 have hlt:=of_decide_eq_true h
 have h1:=hI.2
 refine ok_bi (ins_inner_o data k hk hl (s.1,s.2) ⟨hI.1,by simp only; omega,hlt⟩) fun r hr=>ok_some ?_
 have hw:wi (s.2+1)=s.2+1:=wi_id (by omega) (by omega)
 refine ⟨⟨hr,?_⟩,?_⟩
 ·simp only [hw]; omega
 ·simp only [hw]; omega
theorem stable_o (x:List Kbb) (h:x.length≤19):Ok (Kce 400 x) (Kin x):=by
 unfold Kce
 refine ok_bi (P:=Kin x) ?_ fun r hr=>ok_some hr
 obtain ⟨r,h1,h2⟩:=ins_o x 400 (by omega) (by omega)
 unfold Kcd
 refine ok_eq (r:=(x,0)) ?_ ?_
 ·refine loop_out ?_
  rw [decide_eq_false (show ¬ (20:Int)≤x.length by omega)]
  rfl
 ·simp only
  refine ok_eq h1 (ok_gd (decide_eq_true h2.1) ?_)
  refine ok_eq (r:=()) ?_ (ok_some h2)
  refine loop_out ?_
  rw [decide_eq_false (show ¬ (20:Int)<x.length by omega)]
  rfl
end Go.Gk
