import Derived.Test.YtjmlnnanfkiakaaGreatDoorFDraws
set_option linter.unusedVariables false
set_option linter.unusedSimpArgs false
set_option linter.unusedSectionVars false
set_option maxRecDepth 100000
namespace Go.Gk
section
variable {l:List Int} {b:Int} {s:Kay}
def AllS (m:List Kbb):Prop:=∀ x∈m,StepOk x
theorem AllS.set {m:List Kbb} (h:AllS m) {i:Nat} {x:Kbb} (hx:StepOk x):AllS (m.set i x):=fun y hy=>by
 rcases List.mem_or_eq_of_mem_set hy with h1 | rfl
 ·exact h y h1
 ·exact hx
theorem AllS.nil:AllS []:=fun x hx=>absurd hx List.not_mem_nil
theorem AllS.set2 {m:List Kbb} (h:AllS m) {i:Nat} {x y:Kbb} (hx:StepOk x) (hy:StepOk y):AllS ((m.set i x).set i y):=(h.set hx).set hy
theorem rep_ok:∃ z,Kag [97] 21=some z∧z∈pubT:=⟨List.replicate 21 97,by rfl,by decide⟩
theorem steps_d (h:At l 0 b s) (hl:Smal l) (hb:b<4611686018427300000) (many:Int) (hm:0≤many) (hm2:many≤14) :
  Ok (Kcf 400 s many) fun r=>(AllS r.1∧r.1.length=many.toNat)∧At l 0 (b+1000) r.2:=by
 unfold Kcf
 refine ok_bi (next_d h 5 hl (by omega) (by decide) (by decide)) fun y1 h1=>?_
 refine ok_bi (ok_gd (decide_eq_true (by omega)) (ok_rangeG (fun i (st:Kay×(List Kbb)×(List (Str×Int))×Int)=>At l 0 (b+1+13 * i) st.1∧AllS st.2.1∧st.2.1.length=i) ⟨h1.2.up (Int.le_refl _) (by simp),AllS.nil,rfl⟩ fun i st hi hI=>?_)) fun q6 h6=>?_
 ·obtain ⟨i1,i2,i3⟩:=hI
  refine ok_bi (one_d i1 hl (by omega) _) fun y15 h15=>?_
  refine ok_app (by simp only [List.length_cons,List.length_nil]; omega) ?_
  refine ok_bi (pick_d h15.2 _ hl (by omega) (by decide) (by decide)) fun y19 h19=>ok_some ⟨h19.up (Int.le_refl _) (by omega),?_,?_⟩
  ·intro x hx
   rcases List.mem_append.1 hx with g1 | g1
   ·exact i2 x g1
   ·rw [List.mem_singleton.1 g1]; exact ⟨h15.1.sv,h15.1.by_,h15.1.nd,h15.1.jn,h15.1.nm,h15.1.pb,h15.1.tg⟩
  ·simp only [List.length_append,List.length_cons,List.length_nil]; omega
 ·obtain ⟨i1,i2,i3⟩:=h6
  refine ok_bi (stable_o q6.2.1 (by omega)) fun y21 h21=>ok_gd (decide_eq_true h21.1) ?_
  have hy:AllS y21:=fun x hx=>i2 x (h21.2 x hx)
  have hyl:y21.length=many.toNat:=h21.1.trans i3
  refine ok_bi (P:=fun q:Kay×Bool=>At l 0 (b+200) q.1∧(q.2=true→0<y21.length)) (ok_bif (fun g=>?_) fun _=>ok_some ⟨i1.up (Int.le_refl _) (by omega),fun g=>by cases g⟩) fun q25 h25=>?_
  ·have:=of_decide_eq_true g
   exact ok_bi (flip_d i1 15 hl (by omega) (by decide) (by decide)) fun y28 h28=>ok_some ⟨h28.up (Int.le_refl _) (by omega),fun _=>by omega⟩
  ·refine ok_bi (P:=fun q:Kay×List Kbb=>(AllS q.2∧q.2.length=many.toNat)∧At l 0 (b+1000) q.1) (ok_bif (fun g=>?_) fun _=>ok_some ⟨⟨hy,hyl⟩,h25.1.up (Int.le_refl _) (by omega)⟩) fun q31 h31=>ok_some h31
   have hn:=h25.2 g
   refine ok_bi (next_d h25.1 _ hl (by omega) (by omega) (by omega)) fun y34 h34=>?_
   refine ok_bi (get_d (P:=StepOk) y21 h34.1 rfl hy) fun x36 h36=>?_
   refine ok_bi (next_d h34.2 6 hl (by omega) (by decide) (by decide)) fun y39 h39=>?_
   refine ok_bif (fun _=>?_) fun _=>ok_bif (fun _=>?_) fun _=>ok_bif (fun _=>?_) fun _=>ok_bif (fun _=>?_) fun _=>ok_bif (fun _=>?_) fun _=>?_
   ·refine ok_bi (pick_d h39.2 _ hl (by omega) (by decide) (by decide)) fun y42 h42=>ok_some ⟨⟨hy.set ⟨h36.sv,h36.by_,h36.nd,h36.jn,h36.nm,h36.pb,h36.tg⟩,by rw [List.length_set]; exact hyl⟩,h42.up (Int.le_refl _) (by omega)⟩
   ·refine ok_bi (some_d (P:=fun x=>x∈keyT) h39.2 _ hl (by omega) (by decide) (by decide) (by decide)) fun y46 h46=>?_
    refine ok_bi (pick_d h46.2 _ hl (by omega) (by decide) (by decide)) fun y48 h48=>ok_some ⟨⟨(AllS.set2 hy (x:=_) (y:=_) ?_ ?_),by rw [List.length_set,List.length_set]; exact hyl⟩,h48.up (Int.le_refl _) (by omega)⟩
    ·exact ⟨h46.1,h36.by_,h36.nd,h36.jn,h36.nm,h36.pb,h36.tg⟩
    ·exact ⟨h46.1,h36.by_,h36.nd,h36.jn,h36.nm,h36.pb,h36.tg⟩
   ·refine ok_bi (pick_d h39.2 _ hl (by omega) (by decide) (by decide)) fun y53 h53=>ok_some ⟨⟨hy.set ⟨h36.sv,h36.by_,h36.nd,h36.jn,h36.nm,h36.pb,h36.tg⟩,by rw [List.length_set]; exact hyl⟩,h53.up (Int.le_refl _) (by omega)⟩
   ·refine ok_bi (some_d (P:=fun x=>x∈keyT) h39.2 _ hl (by omega) (by decide) (by decide) (by decide)) fun y57 h57=>?_
    refine ok_bi (some_d (P:=fun x=>x∈keyT) h57.2 _ hl (by omega) (by decide) (by decide) (by decide)) fun y59 h59=>ok_some ⟨⟨(AllS.set2 hy (x:=_) (y:=_) ?_ ?_),by rw [List.length_set,List.length_set]; exact hyl⟩,h59.2.up (Int.le_refl _) (by omega)⟩
    ·exact ⟨h36.sv,h57.1,h36.nd,h36.jn,h36.nm,h36.pb,h36.tg⟩
    ·exact ⟨h36.sv,h57.1,h59.1,h36.jn,h36.nm,h36.pb,h36.tg⟩
   ·obtain ⟨z,hz,hz2⟩:=rep_ok
    refine ok_eq hz ?_
    refine ok_bi (some_d (P:=fun x=>x∈pubT) h39.2 _ hl (by omega) (by simp) (by simp) (by
     intro x hx
     simp only [List.mem_cons,List.not_mem_nil,or_false] at hx
     rcases hx with rfl | rfl | rfl | rfl
     ·decide
     ·decide
     ·decide
     ·exact hz2)) fun y66 h66=>?_
    refine ok_bi (pick_d h66.2 _ hl (by omega) (by decide) (by decide)) fun y68 h68=>ok_some ⟨⟨(AllS.set2 hy (x:=_) (y:=_) ?_ ?_),by rw [List.length_set,List.length_set]; exact hyl⟩,h68.up (Int.le_refl _) (by omega)⟩
    ·exact ⟨h36.sv,h36.by_,h36.nd,h36.jn,h36.nm,h66.1,h36.tg⟩
    ·exact ⟨h36.sv,h36.by_,h36.nd,h36.jn,h36.nm,h66.1,h36.tg⟩
   ·refine ok_bi (next_d h39.2 3 hl (by omega) (by decide) (by decide)) fun y72 h72=>?_
    exact ok_bi (get_d (P:=fun x=>x∈tagsT) _ h72.1 rfl (by decide)) fun x74 h74=>ok_some ⟨⟨hy.set ⟨h36.sv,h36.by_,h36.nd,h36.jn,h36.nm,h36.pb,h74⟩,by rw [List.length_set]; exact hyl⟩,h72.2.up (Int.le_refl _) (by omega)⟩
end
end Go.Gk
