import Derived.Test.YtjmlnnanfkiakaaGreatDoorFDraws
set_option linter.all false
set_option maxRecDepth 100000
namespace Go.Gk
section
variable{l:List Int}{b:Int}{s:Lbv}
def AllS(m:List Lby):Prop:=∀ x∈m,StepOk x
theorem AllS.set{m:List Lby}(h:AllS m){i:Nat}{x:Lby}(hx:StepOk x):AllS (m.set i x):=fun y hy=>by
 rcases List.mem_or_eq_of_mem_set hy with h1 | rfl
 ·exact h y h1
 exact hx
theorem AllS.nil:AllS []:=fun x hx=>absurd hx List.not_mem_nil
theorem AllS.set2{m:List Lby}(h:AllS m){i:Nat}{x y:Lby}(hx:StepOk x)(hy:StepOk y):AllS ((m.set i x).set i y):=(h.set hx).set hy
theorem Kcy:∃ z,Kvg [97] 21=some z∧z∈pubT:=⟨List.replicate 21 97,by rfl,by decide⟩
theorem Kcz(h:At l 0 b s)(hl:Smal l)(hb:b<4611686018427300000)(many:Int)(hm:0≤many)(hm2:many≤14) :
  Ok (Ldc 400 s many) fun r=>(AllS r.1∧r.1.length=many.toNat)∧At l 0 (b+1000) r.2:=by
 unfold Ldc
 refine Lac (Kaa h 5 hl (by omega) (by decide) (by decide)) fun y1 h1=>?_
 refine Lac (Lag (decide_eq_true (by omega)) (Lai (fun i (st:Lbv×(List Lby)×(List (Str×Int))×Int)=>At l 0 (b+1+13 * i) st.1∧AllS st.2.1∧st.2.1.length=i) ⟨h1.2.up (Int.le_refl _) (by simp),AllS.nil,rfl⟩ fun i st hi hI=>?_)) fun q6 h6=>?_
 ·obtain⟨i1,i2,i3⟩:=hI
  refine Lac (Kak i1 hl (by omega) _) fun y15 h15=>?_
  refine Lam (by simp only[List.length_cons,List.length_nil];omega) ?_
  refine Lac (Kad h15.2 _ hl (by omega) (by decide) (by decide)) fun y19 h19=>Lab ⟨h19.up (Int.le_refl _) (by omega),?_,?_⟩
  ·intro x hx
   rcases List.mem_append.1 hx with g1 | g1
   ·exact i2 x g1
   ·rw[List.mem_singleton.1 g1];exact⟨h15.1.sv,h15.1.by_,h15.1.nd,h15.1.jn,h15.1.nm,h15.1.pb,h15.1.tg⟩
  ·simp only[List.length_append,List.length_cons,List.length_nil];omega
 ·obtain⟨i1,i2,i3⟩:=h6
  refine Lac (Lbj q6.2.1 (by omega)) fun y21 h21=>Lag (decide_eq_true h21.1) ?_
  have hy:AllS y21:=fun x hx=>i2 x (h21.2 x hx)
  have hyl:y21.length=many.toNat:=h21.1.trans i3
  refine Lac (P:=fun q:Lbv×Bool=>At l 0 (b+200) q.1∧(q.2=true→0<y21.length)) (Laf (fun g=>?_) fun _=>Lab ⟨i1.up (Int.le_refl _) (by omega),fun g=>by cases g⟩) fun q25 h25=>?_
  ·have:=of_decide_eq_true g
   exact Lac (Kab i1 15 hl (by omega) (by decide) (by decide)) fun y28 h28=>Lab ⟨h28.up (Int.le_refl _) (by omega),fun _=>by omega⟩
  ·refine Lac (P:=fun q:Lbv×List Lby=>(AllS q.2∧q.2.length=many.toNat)∧At l 0 (b+1000) q.1) (Laf (fun g=>?_) fun _=>Lab ⟨⟨hy,hyl⟩,h25.1.up (Int.le_refl _) (by omega)⟩) fun q31 h31=>Lab h31
   have hn:=h25.2 g
   refine Lac (Kaa h25.1 _ hl (by omega) (by omega) (by omega)) fun y34 h34=>?_
   refine Lac (Kaf (P:=StepOk) y21 h34.1 rfl hy) fun x36 h36=>?_
   refine Lac (Kaa h34.2 6 hl (by omega) (by decide) (by decide)) fun y39 h39=>?_
   refine Laf (fun _=>?_) fun _=>Laf (fun _=>?_) fun _=>Laf (fun _=>?_) fun _=>Laf (fun _=>?_) fun _=>Laf (fun _=>?_) fun _=>?_
   ·refine Lac (Kad h39.2 _ hl (by omega) (by decide) (by decide)) fun y42 h42=>Lab ⟨⟨hy.set ⟨h36.sv,h36.by_,h36.nd,h36.jn,h36.nm,h36.pb,h36.tg⟩,by rw[List.length_set];exact hyl⟩,h42.up (Int.le_refl _) (by omega)⟩
   ·refine Lac (Kac (P:=fun x=>x∈keyT) h39.2 _ hl (by omega) (by decide) (by decide) (by decide)) fun y46 h46=>?_
    refine Lac (Kad h46.2 _ hl (by omega) (by decide) (by decide)) fun y48 h48=>Lab ⟨⟨(AllS.set2 hy (x:=_) (y:=_) ?_ ?_),by rw[List.length_set,List.length_set];exact hyl⟩,h48.up (Int.le_refl _) (by omega)⟩
    ·exact⟨h46.1,h36.by_,h36.nd,h36.jn,h36.nm,h36.pb,h36.tg⟩
    ·exact⟨h46.1,h36.by_,h36.nd,h36.jn,h36.nm,h36.pb,h36.tg⟩
   ·refine Lac (Kad h39.2 _ hl (by omega) (by decide) (by decide)) fun y53 h53=>Lab ⟨⟨hy.set ⟨h36.sv,h36.by_,h36.nd,h36.jn,h36.nm,h36.pb,h36.tg⟩,by rw[List.length_set];exact hyl⟩,h53.up (Int.le_refl _) (by omega)⟩
   ·refine Lac (Kac (P:=fun x=>x∈keyT) h39.2 _ hl (by omega) (by decide) (by decide) (by decide)) fun y57 h57=>?_
    refine Lac (Kac (P:=fun x=>x∈ndT) h57.2 _ hl (by omega) (by decide) (by decide) (by decide)) fun y59 h59=>Lab ⟨⟨(AllS.set2 hy (x:=_) (y:=_) ?_ ?_),by rw[List.length_set,List.length_set];exact hyl⟩,h59.2.up (Int.le_refl _) (by omega)⟩
    ·exact⟨h36.sv,h57.1,h36.nd,h36.jn,h36.nm,h36.pb,h36.tg⟩
    ·exact⟨h36.sv,h57.1,h59.1,h36.jn,h36.nm,h36.pb,h36.tg⟩
   ·obtain⟨z,hz,hz2⟩:=Kcy
    refine Lad hz ?_
    refine Lac (Kac (P:=fun x=>x∈pubT) h39.2 _ hl (by omega) (by simp) (by simp) (by
     intro x hx
     simp only[List.mem_cons,List.not_mem_nil,or_false] at hx
     rcases hx with rfl | rfl | rfl | rfl
     ·decide
     ·decide
     ·decide
     ·exact hz2)) fun y66 h66=>?_
    refine Lac (Kad h66.2 _ hl (by omega) (by decide) (by decide)) fun y68 h68=>Lab ⟨⟨(AllS.set2 hy (x:=_) (y:=_) ?_ ?_),by rw[List.length_set,List.length_set];exact hyl⟩,h68.up (Int.le_refl _) (by omega)⟩
    ·exact⟨h36.sv,h36.by_,h36.nd,h36.jn,h36.nm,h66.1,h36.tg⟩
    ·exact⟨h36.sv,h36.by_,h36.nd,h36.jn,h36.nm,h66.1,h36.tg⟩
   ·refine Lac (Kaa h39.2 3 hl (by omega) (by decide) (by decide)) fun y72 h72=>?_
    exact Lac (Kaf (P:=fun x=>x∈tagsT) _ h72.1 rfl (by decide)) fun x74 h74=>Lab ⟨⟨hy.set ⟨h36.sv,h36.by_,h36.nd,h36.jn,h36.nm,h36.pb,h74⟩,by rw[List.length_set];exact hyl⟩,h72.2.up (Int.le_refl _) (by omega)⟩
end
end Go.Gk
