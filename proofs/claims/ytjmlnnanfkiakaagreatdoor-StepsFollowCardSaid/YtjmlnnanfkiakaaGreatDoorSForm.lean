import Derived.Test.YtjmlnnanfkiakaaGreatDoorSKeys
set_option linter.unusedVariables false
set_option linter.unusedSimpArgs false
set_option linter.unusedSectionVars false
set_option maxRecDepth 100000
namespace Go.Gk
theorem rf98 (s:Kbb):Kcs s 98=Kcq s.By:=by
 unfold Kcs
 show bi (bi (Kcq s.By) fun y13=>bi (some y13) fun v=>some (.inr v)) (fun q=>orI q fun a3=>some 0)=_
 cases Kcq s.By<;>rfl
theorem rf110 (s:Kbb):Kcs s 110=Kcq s.Node:=by
 unfold Kcs
 show bi (bi (Kcq s.Node) fun y13=>bi (some y13) fun v=>some (.inr v)) (fun q=>orI q fun a3=>some 0)=_
 cases Kcq s.Node<;>rfl
theorem rf106 (s:Kbb):Kcs s 106=Kcq s.Join:=by
 unfold Kcs
 show bi (bi (Kcq s.Join) fun y13=>bi (some y13) fun v=>some (.inr v)) (fun q=>orI q fun a3=>some 0)=_
 cases Kcq s.Join<;>rfl
theorem rf109 (s:Kbb):Kcs s 109=Kcq s.Name:=by
 unfold Kcs
 show bi (bi (Kcq s.Name) fun y13=>bi (some y13) fun v=>some (.inr v)) (fun q=>orI q fun a3=>some 0)=_
 cases Kcq s.Name<;>rfl
theorem rf66 (s:Kbb):Kcs s 66=bif !(s.By==[]) then Kcq s.By else some 0:=by
 unfold Kcs
 show bi (bif !(s.By==[]) then (bi (Kcq s.By) fun y24=>bi (some y24) fun v=>some (.inr v)) else (some (.inl ()))) (fun q=>orI q fun a3=>some 0)=_
 cases (s.By==[])<;>cases Kcq s.By<;>rfl
theorem rf74 (s:Kbb):Kcs s 74=bif !(s.Join==[]) then Kcq s.Join else some 0:=by
 unfold Kcs
 show bi (bif !(s.Join==[]) then (bi (Kcq s.Join) fun y24=>bi (some y24) fun v=>some (.inr v)) else (some (.inl ()))) (fun q=>orI q fun a3=>some 0)=_
 cases (s.Join==[])<;>cases Kcq s.Join<;>rfl
theorem rf112 (s:Kbb) {b:Bool} (h:Kcr s.Public=some b):Kcs s 112=some (bif b then 0 else 5):=by
 unfold Kcs
 rw [h]
 cases b<;>rfl
theorem rf116 (s:Kbb) {e:Int} (h:Kcj s.Tags=some e) (hl:s.Tags.length≤10):Kcs s 116=some e:=by
 unfold Kcs
 rw [h,decide_eq_false (show ¬ ((s.Tags.length:Int)>10) by omega)]
 rfl
theorem rf117 (s:Kbb):Kcs s 117=some (bif !(decide (0≤s.Until)&&decide (s.Until≤999999999)) then 1 else 0):=by
 unfold Kcs
 show bi (bif !(decide (0≤s.Until)&&decide (s.Until≤999999999)) then (bi (some 1) fun v=>some (.inr v)) else (some (.inl ()))) (fun q=>orI q fun a3=>some 0)=_
 cases (decide (0≤s.Until)&&decide (s.Until≤999999999))<;>rfl
theorem rf115 (s:Kbb):Kcs s 115=some (bif !(decide (0≤s.Uses)&&decide (s.Uses≤999999999)) then 1 else 0):=by
 unfold Kcs
 show bi (bif !(decide (0≤s.Uses)&&decide (s.Uses≤999999999)) then (bi (some 1) fun v=>some (.inr v)) else (some (.inl ()))) (fun q=>orI q fun a3=>some 0)=_
 cases (decide (0≤s.Uses)&&decide (s.Uses≤999999999))<;>rfl
theorem rf114 (s:Kbb):Kcs s 114=some 0:=by
 unfold Kcs
 rfl
theorem rk_ok {x:Str} {b:Bool} (h:Kci x=some b):Kcq x=some (bif b then 0 else 5):=by
 unfold Kcq; rw [h]; cases b<;>rfl
theorem pk_ok {x:Str} {b e:Bool} (h:Kda 400 x=some b):Kdg 400 x e=some (bif b||(e&&(x==[])) then 0 else 5):=by
 unfold Kdg; rw [h]; cases b<;>cases e<;>cases (x==[])<;>rfl
theorem pf0 (s:Kbb) {b:Bool} (h:Kda 400 s.By=some b):Kdk 400 s 0=some (bif b||((s.Kind==3)&&(s.By==[])) then 0 else 5):=by
 unfold Kdk; rw [pk_ok h]; rfl
theorem pf1 (s:Kbb) {b:Bool} (h:Kda 400 s.Node=some b):Kdk 400 s 1=some (bif b then 0 else 5):=by
 unfold Kdk; rw [pk_ok h]; cases b<;>rfl
theorem pf2 (s:Kbb) {b:Bool} (h:Kda 400 s.Join=some b):Kdk 400 s 2=some (bif b||((s.Kind==3)&&(s.Join==[])) then 0 else 5):=by
 unfold Kdk; rw [pk_ok h]; rfl
theorem pf3 (s:Kbb) {b:Bool} (h:Kdh s.Public=some b):Kdk 400 s 3=some (bif b then 0 else 5):=by
 unfold Kdk; rw [h]; cases b<;>rfl
theorem pf4 (s:Kbb) {b:Bool} (h:Kda 400 s.Name=some b):Kdk 400 s 4=some (bif b then 0 else 5):=by
 unfold Kdk; rw [pk_ok h]; cases b<;>rfl
theorem pf5 (s:Kbb) {e:Int} (h:Kdb 400 s.Tags=some e) (hl:s.Tags.length≤10):Kdk 400 s 5=some e:=by
 have:Kdi 400 s.Tags=some e:=by
  unfold Kdi
  rw [h,decide_eq_false (show ¬ ((s.Tags.length:Int)>10) by omega)]
  rfl
 unfold Kdk; rw [this]; rfl
theorem pnum (n:Int):Kdj n=some (bif !(decide (0≤n)&&decide (n≤999999999)) then 1 else 0):=by
 unfold Kdj Kdc
 by_cases h1:0≤n<;>by_cases h2:n≤999999999<;>simp [h1,h2,bi_some,show (n<0)=¬ (0≤n) from by simp,show (n>999999999)=¬ (n≤999999999) from by simp]
theorem pf6 (s:Kbb):Kdk 400 s 6=some (bif !(decide (0≤s.Until)&&decide (s.Until≤999999999)) then 1 else 0):=by
 unfold Kdk; rw [pnum s.Until]; rfl
theorem pf7 (s:Kbb):Kdk 400 s 7=some (bif !(decide (0≤s.Uses)&&decide (s.Uses≤999999999)) then 1 else 0):=by
 unfold Kdk; rw [pnum s.Uses]; rfl
theorem pf8 (s:Kbb):Kdk 400 s 8=some 0:=by
 unfold Kdk; rfl
theorem rangePM_any {α σ ρ:Type} {f:α→σ→Option (LS σ ρ)} (bad:α→Bool) (v:ρ) (s:σ) (m:List α) (hf:∀ x∈m,f x s=some (bif bad x then .out v else .go s)):rangePM f m s=some (bif m.any bad then .out v else .go s):=by
 refine rangePM_some.2 fun m' hp=>?_
 rw [←hp.any_eq]
 have hf':∀ x∈m',f x s=some (bif bad x then .out v else .go s):=fun x hx=>hf x (hp.mem_iff.1 hx)
 clear hp hf
 induction m' with
 | nil=>rfl
 | cons x m' ih=>
  simp only [rangeLM,hf' x List.mem_cons_self,List.any_cons]
  cases bad x with
  | true=>rfl
  | false=>exact ih fun y hy=>hf' y (List.mem_cons_of_mem _ hy)
end Go.Gk
