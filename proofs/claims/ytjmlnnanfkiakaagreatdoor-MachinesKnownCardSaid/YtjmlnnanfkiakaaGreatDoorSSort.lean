import Derived.Test.YtjmlnnanfkiakaaGreatDoorSLog
set_option linter.all false
set_option maxRecDepth 100000
namespace Go.Gk
theorem Lbg{σ ρ:Type}{f:σ→Option (LS σ ρ)}{s:σ}{r:ρ}(h:f s=some (.out r)):loopM f 400 s=some r:=by
 show loopM f (399+1) s=_
 simp only[loopM,h]
def Kin(data r:List Lby):Prop:=r.length=data.length∧∀ x∈r,x∈data
theorem Kin.set{data r:List Lby}(h:Kin data r){i:Nat}{x:Lby}(hx:x∈data):Kin data (r.set i x):=
 ⟨by rw[List.length_set];exact h.1,fun y hy=>by
  rcases List.mem_or_eq_of_mem_set hy with h1 | rfl
  ·exact h.2 y h1
  exact hx⟩
theorem Lbh(data:List Lby)(k:Nat)(hk:data.length<k)(hl:data.length≤1000)(s:(List Lby)×Int)(hs:Kin data s.1∧0≤s.2∧s.2<data.length) :
  Ok (loopM (σ:=(List Lby)×Int) (ρ:=List Lby) (fun s13=>bi (bif decide ((s13.2:Int)>0) then(bi (getZ s13.1 s13.2) fun x25=>bi (getZ s13.1 (wi (s13.2 - 1))) fun x28=>bi (Lcy x25 x28) fun y31=>some (decide ((y31:Int)<0))) else(some false)) fun q22=>bif q22 then(bi (getZ s13.1 (wi (s13.2 - 1))) fun x35=>bi (getZ s13.1 s13.2) fun x38=>bi (getZ s13.1 s13.2) fun x41=>bi (getZ s13.1 (wi (s13.2 - 1))) fun x44=>bi (getZ (s13.1.set s13.2.toNat x35) (((wi (s13.2 - 1)).toNat:Nat):Int)) fun x47=>some (.go ((s13.1.set s13.2.toNat x35).set ((wi (s13.2 - 1)).toNat) x38,wi (s13.2 - 1)))) else(some (.out s13.1))) k s) (Kin data):=by
 refine Lak (fun s:(List Lby)×Int=>Kin data s.1∧0≤s.2∧s.2<(data.length:Int)) (fun s=>s.2.toNat) (Kin data) hs (by omega) fun s13 hI=>?_
 obtain⟨h1,h2,h3⟩:=hI
 have hj:s13.2.toNat<s13.1.length:=by rw[h1.1];omega
 by_cases h0:s13.2>0
 ·have hw:wi (s13.2 - 1)=((s13.2.toNat - 1:Nat):Int):=by rw[Kxl (by omega) (by omega)];omega
  have e1:getZ s13.1 s13.2=some (s13.1[s13.2.toNat]):=Kwj (j:=s13.2.toNat) (by omega) (List.getElem?_eq_getElem hj)
  have e2:getZ s13.1 (wi (s13.2 - 1))=some (s13.1[s13.2.toNat - 1]'(by omega)):=Kwj (j:=s13.2.toNat - 1) hw (List.getElem?_eq_getElem (by omega))
  rw[decide_eq_true h0,cond_true,e1,e2]
  obtain⟨c,hc⟩:=Kzw (s13.1[s13.2.toNat]) (s13.1[s13.2.toNat - 1]'(by omega))
  refine Lad (r:=decide (c<0)) (by rw[bi_some,bi_some,hc];rfl) ?_
  refine Laf (fun _=>?_) fun _=>Lab h1
  simp only[bi_some]
  refine Lal (j:=s13.2.toNat - 1) (x:=s13.1[s13.2.toNat - 1]'(by omega)) (by rw[hw,Int.toNat_natCast]) (by rw[List.getElem?_set_ne (by omega)];exact List.getElem?_eq_getElem _) (Lab ⟨⟨?_,?_,?_⟩,?_⟩)
  ·exact(h1.set (h1.2 _ (List.getElem_mem _))).set (h1.2 _ (List.getElem_mem _))
  ·rw[hw];omega
  ·rw[hw];omega
  ·simp only[hw];omega
 ·rw[decide_eq_false h0,cond_false,bi_some,cond_false]
  exact Lab h1
theorem Lbi(data:List Lby)(k:Nat)(hk:data.length<k)(hl:data.length≤1000):Ok (Lcz k data 0 (data.length:Int)) (Kin data):=by
 unfold Lcz
 refine Lac (P:=Kin data) (Lak (fun s:(List Lby)×Int=>Kin data s.1∧1≤s.2) (fun s=>((data.length:Int) - s.2).toNat) (Kin data) ⟨⟨rfl,fun x h=>h⟩,Int.le_refl 1⟩ (by
  show((data.length:Int) - wi (0+1)).toNat<k
  have:wi (0+1)=1:=rfl
  omega) fun s hI=>?_) fun r hr=>Lab hr
 refine Laf (fun h=>?_) fun _=>Lab hI.1
 have hlt:=of_decide_eq_true h
 have h1:=hI.2
 refine Lac (Lbh data k hk hl (s.1,s.2) ⟨hI.1,by simp only;omega,hlt⟩) fun r hr=>Lab ?_
 have hw:wi (s.2+1)=s.2+1:=Kxl (by omega) (by omega)
 refine⟨⟨hr,?_⟩,?_⟩
 ·simp only[hw];omega
 simp only[hw];omega
theorem Lbj(x:List Lby)(h:x.length≤19):Ok (Ldb 400 x) (Kin x):=by
 unfold Ldb
 refine Lac (P:=Kin x) ?_ fun r hr=>Lab hr
 obtain⟨r,h1,h2⟩:=Lbi x 400 (by omega) (by omega)
 unfold Lda
 refine Lad (r:=(x,0)) ?_ ?_
 ·refine Lbg ?_
  rw[decide_eq_false (show ¬ (20:Int)≤x.length by omega)]
  rfl
 simp only
 refine Lad h1 (Lag (decide_eq_true h2.1) ?_)
 refine Lad (r:=()) ?_ (Lab h2)
 refine Lbg ?_
 rw[decide_eq_false (show ¬ (20:Int)<x.length by omega)]
 rfl
end Go.Gk
