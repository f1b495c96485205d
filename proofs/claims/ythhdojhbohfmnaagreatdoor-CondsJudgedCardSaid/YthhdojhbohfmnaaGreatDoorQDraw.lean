import Derived.Test.YthhdojhbohfmnaaGreatDoorQIns
set_option linter.all false
set_option maxRecDepth 100000
namespace Go.Gk
theorem Kyv{l:List Int}{b:Int}{s:Lcu}(h:At l 0 b s)(n:Int)(hl:l.length≤9223372036854775807)(h1:b<4000000000000000000)(hn:1≤n)(hn2:n≤4611686018427387904) :
  Ok (Ldg s n) fun r=>0≤r.1∧r.1<n∧At l 0 (b+1) r.2:=by
 obtain⟨e1,e2,e3⟩:=h
 obtain⟨c,c0,c1,hc⟩:=Lba l s.v_at n hl (by omega) (by omega) hn hn2
 rw[←e1] at hc
 exact⟨_,hc,c0,c1,e1,by simp only;omega,by simp only;omega⟩
theorem Kyw{l:List Int}{b:Int}{s:Lcu}(h:At l 0 b s)(n:Int)(hl:l.length≤9223372036854775807)(h1:b<4000000000000000000)(hn:1≤n)(hn2:n≤4611686018427387904) :
  Ok (Ldi s n) fun r=>At l 0 (b+1) r.2:=Kdq (Keo h n hl (by omega) (by omega) hn hn2) fun r h=>h.up (by omega) (by omega)
theorem Kyx{l:List Int}{b:Int}{s:Lcu}(h:At l 0 b s)(xs:List Int)(hl:l.length≤9223372036854775807)(h1:b<4000000000000000000)(hn:1≤xs.length)(hn2:xs.length≤1000) :
  Ok (Ldh s xs) fun r=>r.1∈xs∧At l 0 (b+1) r.2:=Kdq (Kep h xs hl (by omega) (by omega) hn hn2) fun r h=>⟨h.1,h.2.up (by omega) (by omega)⟩
theorem Kyy{l:List Int}{b:Int}{s:Lcu}(h:At l 0 b s)(xs:List Str)(hl:l.length≤9223372036854775807)(h1:b<4000000000000000000)(hn:1≤xs.length)(hn2:xs.length≤1000) :
  Ok (Ldj s xs) fun r=>r.1∈xs∧At l 0 (b+1) r.2:=Kdq (Keq h xs hl (by omega) (by omega) hn hn2) fun r h=>⟨h.1,h.2.up (by omega) (by omega)⟩
theorem Kyz:∃ w,Kya [119] 101=some w∧w.length≤1000:=⟨_,rfl,by decide⟩
theorem Kza{l:List Int}{b:Int}{s:Lcu}(h:At l 0 b s)(hl:l.length≤9223372036854775807)(h1:b<3000000000000000000) :
  Ok (Ldo s) fun r=>AtS r.1∧At l 0 (b+20) r.2:=by
 unfold Ldo
 refine Kdo (Kyx h _ hl (by omega) (by simp) (by simp)) fun y1 ⟨_,t1⟩=>?_
 refine Kdo (P:=fun q=>AtS q.2∧At l 0 (b+3) q.1) ?_ fun q3 ⟨a3,t3⟩=>?_
 ·refine Kdr (fun _=>?_) (fun _=>Kdr (fun _=>?_) (fun _=>Kdr (fun _=>?_) (fun _=>?_)))
  ·refine Kdo (Kyx t1 _ hl (by omega) (by simp) (by simp)) fun y6 ⟨_,t6⟩=>Kdn ⟨by simp[AtS],t6.up (by omega) (by omega)⟩
  ·refine Kdo (Kyy t1 _ hl (by omega) (by simp) (by simp)) fun y10 ⟨m10,t10⟩=>Kdn ⟨?_,t10.up (by omega) (by omega)⟩
   simp only[List.mem_cons,List.not_mem_nil,or_false] at m10
   rcases m10 with e | e | e | e | e<;>simp[AtS,e]
  ·refine Kdo (Kyv t1 2 hl (by omega) (by omega) (by omega)) fun y14 ⟨_,_,t14⟩=>Kdn ⟨by simp[AtS],t14.up (by omega) (by omega)⟩
  ·refine Kdo (Kyx t1 _ hl (by omega) (by simp) (by simp)) fun y17 ⟨_,t17⟩=>?_
   refine Kdo (Kyx t17 _ hl (by omega) (by simp) (by simp)) fun y19 ⟨_,t19⟩=>Kdn ⟨by simp[AtS],t19.up (by omega) (by omega)⟩
 ·refine Kdo (Kyw t3 60 hl (by omega) (by omega) (by omega)) fun y21 t21=>?_
  refine Kdo (P:=fun q=>AtS q.2∧At l 0 (b+20) q.1) ?_ fun q23 ⟨a,t⟩=>Kdn ⟨a,t⟩
  refine Kdr (fun _=>?_) (fun _=>Kdn ⟨a3,t21.up (by omega) (by omega)⟩)
  refine Kdo (Kes t21 0 1 hl (by omega) (by omega) (by omega) (by omega) (by omega)) fun y26 t26=>?_
  obtain⟨w,hw,hwl⟩:=Kyz
  refine Kdp hw ?_
  refine Kdo (Kyy t26 _ hl (by omega) (by simp) (by simp)) fun y30 ⟨m30,t30⟩=>Kdn ⟨?_,t30.up (by omega) (by omega)⟩
  simp only[List.mem_cons,List.not_mem_nil,or_false] at m30
  rcases m30 with e | e | e | e<;>simp[AtS,e,hwl]
def Cls(n:Nat)(L:List Lcy):Prop:=L.length≤n∧∀ c∈L,ClS c
theorem Kzb{n:Nat}{L:List Lcy}(h:Cls n L){c:Lcy}(hc:ClS c):Cls (n+1) (L++[c]):=⟨by rw[List.length_append,List.length_singleton];have:=h.1;omega,fun x hx=>(List.mem_append.1 hx).elim (h.2 x) fun hx=>by rw[List.mem_singleton.1 hx];exact hc⟩
theorem Cls.up{n m:Nat}{L:List Lcy}(h:Cls n L)(hm:n≤m):Cls m L:=⟨Nat.le_trans h.1 hm,h.2⟩
theorem Kzc{l:List Int}{b:Int}{s:Lcu}(h:At l 0 b s)(many:Nat)(hm:many≤4)(hl:l.length≤9223372036854775807)(h1:b<2000000000000000000) :
  Ok (Ldr s (many:Int)) fun r=>Cls (6 * many+1) r.1∧At l 0 (b+5000) r.2:=by
 unfold Ldr
 refine Kdo (Kyv h 5 hl (by omega) (by omega) (by omega)) fun y1 ⟨_,_,t1⟩=>?_
 refine Kdo (P:=fun q:Lcu×(List Lcy)×Int=>Cls (6 * many) q.2.1∧At l 0 (b+4100) q.1) (Kds (dT (by omega)) (Kdq (Kdu (fun j q=>Cls (6 * j) q.2.1∧At l 0 (b+1+1000 * (j:Int)) q.1) ⟨⟨Nat.zero_le _,fun c hc=>by cases hc⟩,t1.up (by omega) (by omega)⟩ ?_) fun q hq=>⟨hq.1.up (by omega),hq.2.up (by omega) (by omega)⟩)) fun q6 ⟨c6,t6⟩=>?_
 ·intro j s4 hj ⟨c4,t4⟩
  have hj4:j<4:=by omega
  refine Kdo (P:=fun q:Lcu×(List Lcy)=>Cls (6 * j+6) q.2∧At l 0 (b+1+1000 * (j:Int)+800) q.1) (Kdq (Kdt (fun n q=>Cls (6 * j+3 * n) q.2∧At l 0 (b+1+1000 * (j:Int)+350 * (n:Int)) q.1) ⟨c4,t4.up (by omega) (by omega)⟩ ?_) fun q hq=>⟨hq.1.up (by simp),hq.2.up (by omega) (by simp)⟩) fun q18 ⟨c18,t18⟩=>?_
  ·intro n x17 s16 hx ⟨c16,t16⟩
   have hn:n<2:=by have:=(gEs.1 hx).1;simpa using this
   have hx17:x17.length≤1000:=by
    have:=mOg hx
    simp only[List.mem_cons,List.not_mem_nil,or_false] at this
    rcases this with e | e<;>simp[e]
   refine Kdo (P:=fun q:Lcu×(List Lcy)=>Cls (6 * j+3 * n+3) q.2∧At l 0 (b+1+1000 * (j:Int)+350 * (n:Int)+300) q.1) (Kdq (Kdt (fun u q=>Cls (6 * j+3 * n+u) q.2∧At l 0 (b+1+1000 * (j:Int)+350 * (n:Int)+100 * (u:Int)) q.1) ⟨c16,t16.up (by omega) (by omega)⟩ ?_) fun q hq=>⟨hq.1.up (by simp),hq.2.up (by omega) (by simp)⟩) fun q29 ⟨c29,t29⟩=>Kdn ⟨c29.up (by omega),t29.up (by omega) (by omega)⟩
   intro u x28 s27 hx2 ⟨c27,t27⟩
   have hu:u<3:=by have:=(gEs.1 hx2).1;simpa using this
   have hx28:x28.length≤1000:=by
    have:=mOg hx2
    simp only[List.mem_cons,List.not_mem_nil,or_false] at this
    rcases this with e | e | e<;>simp[e]
   refine Kdo (Kyw t27 4 hl (by omega) (by omega) (by omega)) fun y37 t37=>?_
   refine Kdr (fun _=>Kdn ⟨c27.up (by omega),t37.up (by omega) (by omega)⟩) (fun _=>?_)
   refine Kdo (P:=fun q:Lcu×Lcy=>ClS q.2∧At l 0 (b+1+1000 * (j:Int)+350 * (n:Int)+100 * (u:Int)+2) q.1) ?_ fun q41 ⟨c41,t41⟩=>?_
   ·refine Kdr (fun _=>?_) (fun _=>Kdr (fun _=>?_) (fun _=>?_))
    ·refine Kdo (Kyv t37 2 hl (by omega) (by omega) (by omega)) fun y44 ⟨_,_,t44⟩=>Kdn ⟨⟨hx17,hx28,by simp[AtS]⟩,t44.up (by omega) (by omega)⟩
    ·refine Kdo (Kyy t37 _ hl (by omega) (by simp) (by simp)) fun y48 ⟨m48,t48⟩=>Kdn ⟨⟨hx17,hx28,?_⟩,t48.up (by omega) (by omega)⟩
     simp only[List.mem_cons,List.not_mem_nil,or_false] at m48
     rcases m48 with e | e | e<;>simp[AtS,e]
    ·refine Kdo (Kyx t37 _ hl (by omega) (by simp) (by simp)) fun y51 ⟨_,t51⟩=>Kdn ⟨⟨hx17,hx28,by simp[AtS]⟩,t51.up (by omega) (by omega)⟩
   ·refine Kdo (Kyw t41 15 hl (by omega) (by omega) (by omega)) fun y53 t53=>?_
    refine Kdo (P:=fun q:Lcu×Lcy=>ClS q.2∧At l 0 (b+1+1000 * (j:Int)+350 * (n:Int)+100 * (u:Int)+30) q.1) ?_ fun q55 ⟨c55,t55⟩=>?_
    ·refine Kdr (fun _=>?_) (fun _=>Kdn ⟨c41,t53.up (by omega) (by omega)⟩)
     refine Kdo (Kza t53 hl (by omega)) fun y58 ⟨a58,t58⟩=>Kdn ⟨⟨c41.1,c41.2.1,a58⟩,t58.up (by omega) (by omega)⟩
    ·have hc27:=c27.1
     refine Kdy (by rw[List.length_singleton];omega) (Kdn ⟨Kzb c27 c55,t55.up (by omega) (by push_cast;omega)⟩)
  ·refine Kdo (Kyx t18 _ hl (by omega) (by simp) (by simp)) fun y63 ⟨_,t63⟩=>Kdn ⟨c18.up (by omega),t63.up (by omega) (by push_cast;omega)⟩
 ·refine Kdo (Kyw t6 20 hl (by omega) (by omega) (by omega)) fun y65 t65=>?_
  refine Kdo (P:=fun q:Lcu×(List Lcy)=>Cls (6 * many+1) q.2∧At l 0 (b+5000) q.1) ?_ fun q67 ⟨c67,t67⟩=>Kdn ⟨c67,t67⟩
  refine Kdr (fun _=>?_) (fun _=>Kdn ⟨c6.up (by omega),t65.up (by omega) (by omega)⟩)
  refine Kdo (Kes t65 0 1000 hl (by omega) (by omega) (by omega) (by omega) (by omega)) fun y70 t70=>?_
  refine Kdo (Kyy t70 _ hl (by omega) (by simp) (by simp)) fun y72 ⟨m72,t72⟩=>?_
  refine Kdo (Kyy t72 _ hl (by omega) (by simp) (by simp)) fun y74 ⟨m74,t74⟩=>?_
  refine Kdo (Kza t74 hl (by omega)) fun y76 ⟨a76,t76⟩=>?_
  have hc6:=c6.1
  refine Kdy (by rw[List.length_singleton];omega) (Kdn ⟨Kzb c6 ⟨?_,?_,a76⟩,t76.up (by omega) (by omega)⟩)
  ·simp only[List.mem_cons,List.not_mem_nil,or_false] at m72
   rcases m72 with e | e<;>simp[e]
  ·simp only[List.mem_cons,List.not_mem_nil,or_false] at m74
   rcases m74 with e | e<;>simp[e]
theorem Kzd{l:List Int}{b:Int}{s:Lcu}(h:At l 0 b s)(hl:l.length≤9223372036854775807)(h1:b<3000000000000000000) :
  Ok (Lds s) fun r=>At l 0 (b+20) r.2:=by
 unfold Lds
 refine Kdo (Kyx h _ hl (by omega) (by simp) (by simp)) fun y1 ⟨_,t1⟩=>?_
 exact Kdo (Kyx t1 _ hl (by omega) (by simp) (by simp)) fun y3 ⟨_,t3⟩=>Kdn (t3.up (by omega) (by omega))
theorem Kze{l:List Int}{b:Int}{s:Lcu}(h:At l 0 b s)(hl:l.length≤9223372036854775807)(h1:b<3000000000000000000) :
  Ok (Ldt s) fun r=>At l 0 (b+20) r.2:=by
 unfold Ldt
 refine Kdo (Kyv h 300 hl (by omega) (by omega) (by omega)) fun y1 ⟨_,_,t1⟩=>?_
 refine Kdo (Kyv t1 300 hl (by omega) (by omega) (by omega)) fun y3 ⟨_,_,t3⟩=>?_
 refine Kdo (Kyx t3 _ hl (by omega) (by simp) (by simp)) fun y5 ⟨_,t5⟩=>?_
 exact Kdo (Kyx t5 _ hl (by omega) (by simp) (by simp)) fun y7 ⟨_,t7⟩=>Kdn (t7.up (by omega) (by omega))
end Go.Gk
