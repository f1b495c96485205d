import Derived.Test.YtjmlnnanfkiakaaGreatDoorSKeys
set_option linter.all false
set_option maxRecDepth 100000
namespace Go.Gk
theorem rf98(s:Lby):Ldp s 98=Ldn s.By:=by
 unfold Ldp
 show bi (bi (Ldn s.By) fun y13=>bi (some y13) fun v=>some (.inr v)) (fun q=>orI q fun a3=>some 0)=_
 cases Ldn s.By<;>rfl
theorem Lmn(s:Lby):Ldp s 110=Ldn s.Node:=by
 unfold Ldp
 show bi (bi (Ldn s.Node) fun y13=>bi (some y13) fun v=>some (.inr v)) (fun q=>orI q fun a3=>some 0)=_
 cases Ldn s.Node<;>rfl
theorem Lmo(s:Lby):Ldp s 106=Ldn s.Join:=by
 unfold Ldp
 show bi (bi (Ldn s.Join) fun y13=>bi (some y13) fun v=>some (.inr v)) (fun q=>orI q fun a3=>some 0)=_
 cases Ldn s.Join<;>rfl
theorem Lmp(s:Lby):Ldp s 109=Ldn s.Name:=by
 unfold Ldp
 show bi (bi (Ldn s.Name) fun y13=>bi (some y13) fun v=>some (.inr v)) (fun q=>orI q fun a3=>some 0)=_
 cases Ldn s.Name<;>rfl
theorem rf66(s:Lby):Ldp s 66=bif !(s.By==[]) then Ldn s.By else some 0:=by
 unfold Ldp
 show bi (bif !(s.By==[]) then(bi (Ldn s.By) fun y24=>bi (some y24) fun v=>some (.inr v)) else(some (.inl ()))) (fun q=>orI q fun a3=>some 0)=_
 cases (s.By==[])<;>cases Ldn s.By<;>rfl
theorem rf74(s:Lby):Ldp s 74=bif !(s.Join==[]) then Ldn s.Join else some 0:=by
 unfold Ldp
 show bi (bif !(s.Join==[]) then(bi (Ldn s.Join) fun y24=>bi (some y24) fun v=>some (.inr v)) else(some (.inl ()))) (fun q=>orI q fun a3=>some 0)=_
 cases (s.Join==[])<;>cases Ldn s.Join<;>rfl
theorem Lmq(s:Lby){b:Bool}(h:Ldo s.Public=some b):Ldp s 112=some (bif b then 0 else 5):=by
 unfold Ldp
 rw[h]
 cases b<;>rfl
theorem Lmr(s:Lby){e:Int}(h:Ldg s.Tags=some e)(hl:s.Tags.length≤10):Ldp s 116=some e:=by
 unfold Ldp
 rw[h,decide_eq_false (show ¬ ((s.Tags.length:Int)>10) by omega)]
 rfl
theorem Lms(s:Lby):Ldp s 117=some (bif !(decide (0≤s.Until)&&decide (s.Until≤999999999)) then 1 else 0):=by
 unfold Ldp
 show bi (bif !(decide (0≤s.Until)&&decide (s.Until≤999999999)) then(bi (some 1) fun v=>some (.inr v)) else(some (.inl ()))) (fun q=>orI q fun a3=>some 0)=_
 cases (decide (0≤s.Until)&&decide (s.Until≤999999999))<;>rfl
theorem Lmt(s:Lby):Ldp s 115=some (bif !(decide (0≤s.Uses)&&decide (s.Uses≤999999999)) then 1 else 0):=by
 unfold Ldp
 show bi (bif !(decide (0≤s.Uses)&&decide (s.Uses≤999999999)) then(bi (some 1) fun v=>some (.inr v)) else(some (.inl ()))) (fun q=>orI q fun a3=>some 0)=_
 cases (decide (0≤s.Uses)&&decide (s.Uses≤999999999))<;>rfl
theorem Lmu(s:Lby):Ldp s 114=some 0:=by
 unfold Ldp
 rfl
theorem Kyd{x:Str}{b:Bool}(h:Ldf x=some b):Ldn x=some (bif b then 0 else 5):=by
 unfold Ldn;rw[h];cases b<;>rfl
theorem Kye{x:Str}{b e:Bool}(h:Ldy 400 x=some b):Lee 400 x e=some (bif b||(e&&(x==[])) then 0 else 5):=by
 unfold Lee;rw[h];cases b<;>cases e<;>cases (x==[])<;>rfl
theorem pf0(s:Lby){b:Bool}(h:Ldy 400 s.By=some b):Lei 400 s 0=some (bif b||((s.Kind==3)&&(s.By==[])) then 0 else 5):=by
 unfold Lei;rw[Kye h];rfl
theorem pf1(s:Lby){b:Bool}(h:Ldy 400 s.Node=some b):Lei 400 s 1=some (bif b then 0 else 5):=by
 unfold Lei;rw[Kye h];cases b<;>rfl
theorem pf2(s:Lby){b:Bool}(h:Ldy 400 s.Join=some b):Lei 400 s 2=some (bif b||((s.Kind==3)&&(s.Join==[])) then 0 else 5):=by
 unfold Lei;rw[Kye h];rfl
theorem pf3(s:Lby){b:Bool}(h:Lef s.Public=some b):Lei 400 s 3=some (bif b then 0 else 5):=by
 unfold Lei;rw[h];cases b<;>rfl
theorem pf4(s:Lby){b:Bool}(h:Ldy 400 s.Name=some b):Lei 400 s 4=some (bif b then 0 else 5):=by
 unfold Lei;rw[Kye h];cases b<;>rfl
theorem pf5(s:Lby){e:Int}(h:Ldz 400 s.Tags=some e)(hl:s.Tags.length≤10):Lei 400 s 5=some e:=by
 have:Leg 400 s.Tags=some e:=by
  unfold Leg
  rw[h,decide_eq_false (show ¬ ((s.Tags.length:Int)>10) by omega)]
  rfl
 unfold Lei;rw[this];rfl
theorem pnum(n:Int):Leh n=some (bif !(decide (0≤n)&&decide (n≤999999999)) then 1 else 0):=by
 unfold Leh Lea
 by_cases h1:0≤n<;>by_cases h2:n≤999999999<;>simp[h1,h2,bi_some,show(n<0)=¬ (0≤n) from by simp,show(n>999999999)=¬ (n≤999999999) from by simp]
theorem pf6(s:Lby):Lei 400 s 6=some (bif !(decide (0≤s.Until)&&decide (s.Until≤999999999)) then 1 else 0):=by
 unfold Lei;rw[pnum s.Until];rfl
theorem pf7(s:Lby):Lei 400 s 7=some (bif !(decide (0≤s.Uses)&&decide (s.Uses≤999999999)) then 1 else 0):=by
 unfold Lei;rw[pnum s.Uses];rfl
theorem pf8(s:Lby):Lei 400 s 8=some 0:=by
 unfold Lei;rfl
theorem Kyf{α σ ρ:Type}{f:α→σ→Option (LS σ ρ)}(bad:α→Bool)(v:ρ)(s:σ)(m:List α)(hf:∀ x∈m,f x s=some (bif bad x then .out v else .go s)):rangePM f m s=some (bif m.any bad then .out v else .go s):=by
 refine Knu.2 fun m' hp=>?_
 rw[←hp.any_eq]
 have hf':∀ x∈m',f x s=some (bif bad x then .out v else .go s):=fun x hx=>hf x (hp.mem_iff.1 hx)
 clear hp hf
 induction m' with
 | nil=>rfl
 | cons x m' ih=>
  simp only[rangeLM,hf' x List.mem_cons_self,List.any_cons]
  cases bad x with
  | true=>rfl
  | false=>exact ih fun y hy=>hf' y (List.mem_cons_of_mem _ hy)
end Go.Gk
