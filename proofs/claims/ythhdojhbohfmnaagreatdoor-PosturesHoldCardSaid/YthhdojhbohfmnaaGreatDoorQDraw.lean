import Derived.Test.YthhdojhbohfmnaaGreatDoorQIns
set_option linter.all false
set_option maxRecDepth 100000
namespace Go.Gk
theorem Kva{l:List Int}{b:Int}{s:Kyc}(h:At l 0 b s)(n:Int)(hl:l.length≤9223372036854775807)(h1:b<4000000000000000000)(hn:1≤n)(hn2:n≤4611686018427387904) :
  Ok (Kyp s n) fun r=>0≤r.1∧r.1<n∧At l 0 (b+1) r.2:=by
 obtain⟨e1,e2,e3⟩:=h
 obtain⟨c,c0,c1,hc⟩:=Kwx l s.v_at n hl (by omega) (by omega) hn hn2
 rw[←e1] at hc
 exact⟨_,hc,c0,c1,e1,by simp only;omega,by simp only;omega⟩
theorem Kvb{l:List Int}{b:Int}{s:Kyc}(h:At l 0 b s)(n:Int)(hl:l.length≤9223372036854775807)(h1:b<4000000000000000000)(hn:1≤n)(hn2:n≤4611686018427387904) :
  Ok (Kyq s n) fun r=>At l 0 (b+1) r.2:=Kcs (Kcz h n hl (by omega) (by omega) hn hn2) fun r h=>h.up (by omega) (by omega)
theorem Kvc{l:List Int}{b:Int}{s:Kyc}(h:At l 0 b s)(xs:List Int)(hl:l.length≤9223372036854775807)(h1:b<4000000000000000000)(hn:1≤xs.length)(hn2:xs.length≤1000) :
  Ok (Kyt s xs) fun r=>r.1∈xs∧At l 0 (b+1) r.2:=Kcs (Kda h xs hl (by omega) (by omega) hn hn2) fun r h=>⟨h.1,h.2.up (by omega) (by omega)⟩
theorem Kvd{l:List Int}{b:Int}{s:Kyc}(h:At l 0 b s)(xs:List Str)(hl:l.length≤9223372036854775807)(h1:b<4000000000000000000)(hn:1≤xs.length)(hn2:xs.length≤1000) :
  Ok (Kyr s xs) fun r=>r.1∈xs∧At l 0 (b+1) r.2:=Kcs (Kdb h xs hl (by omega) (by omega) hn hn2) fun r h=>⟨h.1,h.2.up (by omega) (by omega)⟩
theorem Kve:∃ w,Kty [119] 101=some w∧w.length≤1000:=⟨_,rfl,by decide⟩
theorem Kvf{l:List Int}{b:Int}{s:Kyc}(h:At l 0 b s)(hl:l.length≤9223372036854775807)(h1:b<3000000000000000000) :
  Ok (Kyx s) fun r=>AtS r.1∧At l 0 (b+20) r.2:=by
 unfold Kyx
 refine Kcq (Kvc h _ hl (by omega) (by simp) (by simp)) fun y1 ⟨_,t1⟩=>?_
 refine Kcq (P:=fun q=>AtS q.2∧At l 0 (b+3) q.1) ?_ fun q3 ⟨a3,t3⟩=>?_
 ·refine Kct (fun _=>?_) (fun _=>Kct (fun _=>?_) (fun _=>Kct (fun _=>?_) (fun _=>?_)))
  ·refine Kcq (Kvc t1 _ hl (by omega) (by simp) (by simp)) fun y6 ⟨_,t6⟩=>Kcp ⟨by simp[AtS],t6.up (by omega) (by omega)⟩
  ·refine Kcq (Kvd t1 _ hl (by omega) (by simp) (by simp)) fun y10 ⟨m10,t10⟩=>Kcp ⟨?_,t10.up (by omega) (by omega)⟩
   simp only[List.mem_cons,List.not_mem_nil,or_false] at m10
   rcases m10 with e | e | e | e | e<;>simp[AtS,e]
  ·refine Kcq (Kva t1 2 hl (by omega) (by omega) (by omega)) fun y14 ⟨_,_,t14⟩=>Kcp ⟨by simp[AtS],t14.up (by omega) (by omega)⟩
  ·refine Kcq (Kvc t1 _ hl (by omega) (by simp) (by simp)) fun y17 ⟨_,t17⟩=>?_
   refine Kcq (Kvc t17 _ hl (by omega) (by simp) (by simp)) fun y19 ⟨_,t19⟩=>Kcp ⟨by simp[AtS],t19.up (by omega) (by omega)⟩
 ·refine Kcq (Kvb t3 60 hl (by omega) (by omega) (by omega)) fun y21 t21=>?_
  refine Kcq (P:=fun q=>AtS q.2∧At l 0 (b+20) q.1) ?_ fun q23 ⟨a,t⟩=>Kcp ⟨a,t⟩
  refine Kct (fun _=>?_) (fun _=>Kcp ⟨a3,t21.up (by omega) (by omega)⟩)
  refine Kcq (Kdd t21 0 1 hl (by omega) (by omega) (by omega) (by omega) (by omega)) fun y26 t26=>?_
  obtain⟨w,hw,hwl⟩:=Kve
  refine Kcr hw ?_
  refine Kcq (Kvd t26 _ hl (by omega) (by simp) (by simp)) fun y30 ⟨m30,t30⟩=>Kcp ⟨?_,t30.up (by omega) (by omega)⟩
  simp only[List.mem_cons,List.not_mem_nil,or_false] at m30
  rcases m30 with e | e | e | e<;>simp[AtS,e,hwl]
def Cls(n:Nat)(L:List Kyh):Prop:=L.length≤n∧∀ c∈L,ClS c
theorem Kvg{n:Nat}{L:List Kyh}(h:Cls n L){c:Kyh}(hc:ClS c):Cls (n+1) (L++[c]):=⟨by rw[List.length_append,List.length_singleton];have:=h.1;omega,fun x hx=>(List.mem_append.1 hx).elim (h.2 x) fun hx=>by rw[List.mem_singleton.1 hx];exact hc⟩
theorem Cls.up{n m:Nat}{L:List Kyh}(h:Cls n L)(hm:n≤m):Cls m L:=⟨Nat.le_trans h.1 hm,h.2⟩
theorem Kvh{l:List Int}{b:Int}{s:Kyc}(h:At l 0 b s)(many:Nat)(hm:many≤4)(hl:l.length≤9223372036854775807)(h1:b<2000000000000000000) :
  Ok (Kzb s (many:Int)) fun r=>Cls (6 * many+1) r.1∧At l 0 (b+5000) r.2:=by
 unfold Kzb
 refine Kcq (Kva h 5 hl (by omega) (by omega) (by omega)) fun y1 ⟨_,_,t1⟩=>?_
 refine Kcq (P:=fun q:Kyc×(List Kyh)×Int=>Cls (6 * many) q.2.1∧At l 0 (b+4100) q.1) (Kcu (dT (by omega)) (Kcs (Kcw (fun j q=>Cls (6 * j) q.2.1∧At l 0 (b+1+1000 * (j:Int)) q.1) ⟨⟨Nat.zero_le _,fun c hc=>by cases hc⟩,t1.up (by omega) (by omega)⟩ ?_) fun q hq=>⟨hq.1.up (by omega),hq.2.up (by omega) (by omega)⟩)) fun q6 ⟨c6,t6⟩=>?_
 ·intro j s4 hj ⟨c4,t4⟩
  have hj4:j<4:=by omega
  refine Kcq (P:=fun q:Kyc×(List Kyh)=>Cls (6 * j+6) q.2∧At l 0 (b+1+1000 * (j:Int)+800) q.1) (Kcs (Kcv (fun n q=>Cls (6 * j+3 * n) q.2∧At l 0 (b+1+1000 * (j:Int)+350 * (n:Int)) q.1) ⟨c4,t4.up (by omega) (by omega)⟩ ?_) fun q hq=>⟨hq.1.up (by simp),hq.2.up (by omega) (by simp)⟩) fun q18 ⟨c18,t18⟩=>?_
  ·intro n x17 s16 hx ⟨c16,t16⟩
   have hn:n<2:=by have:=(gEs.1 hx).1;simpa using this
   have hx17:x17.length≤1000:=by
    have:=mOg hx
    simp only[List.mem_cons,List.not_mem_nil,or_false] at this
    rcases this with e | e<;>simp[e]
   refine Kcq (P:=fun q:Kyc×(List Kyh)=>Cls (6 * j+3 * n+3) q.2∧At l 0 (b+1+1000 * (j:Int)+350 * (n:Int)+300) q.1) (Kcs (Kcv (fun u q=>Cls (6 * j+3 * n+u) q.2∧At l 0 (b+1+1000 * (j:Int)+350 * (n:Int)+100 * (u:Int)) q.1) ⟨c16,t16.up (by omega) (by omega)⟩ ?_) fun q hq=>⟨hq.1.up (by simp),hq.2.up (by omega) (by simp)⟩) fun q29 ⟨c29,t29⟩=>Kcp ⟨c29.up (by omega),t29.up (by omega) (by omega)⟩
   intro u x28 s27 hx2 ⟨c27,t27⟩
   have hu:u<3:=by have:=(gEs.1 hx2).1;simpa using this
   have hx28:x28.length≤1000:=by
    have:=mOg hx2
    simp only[List.mem_cons,List.not_mem_nil,or_false] at this
    rcases this with e | e | e<;>simp[e]
   refine Kcq (Kvb t27 4 hl (by omega) (by omega) (by omega)) fun y37 t37=>?_
   refine Kct (fun _=>Kcp ⟨c27.up (by omega),t37.up (by omega) (by omega)⟩) (fun _=>?_)
   refine Kcq (P:=fun q:Kyc×Kyh=>ClS q.2∧At l 0 (b+1+1000 * (j:Int)+350 * (n:Int)+100 * (u:Int)+2) q.1) ?_ fun q41 ⟨c41,t41⟩=>?_
   ·refine Kct (fun _=>?_) (fun _=>Kct (fun _=>?_) (fun _=>?_))
    ·refine Kcq (Kva t37 2 hl (by omega) (by omega) (by omega)) fun y44 ⟨_,_,t44⟩=>Kcp ⟨⟨hx17,hx28,by simp[AtS]⟩,t44.up (by omega) (by omega)⟩
    ·refine Kcq (Kvd t37 _ hl (by omega) (by simp) (by simp)) fun y48 ⟨m48,t48⟩=>Kcp ⟨⟨hx17,hx28,?_⟩,t48.up (by omega) (by omega)⟩
     simp only[List.mem_cons,List.not_mem_nil,or_false] at m48
     rcases m48 with e | e | e<;>simp[AtS,e]
    ·refine Kcq (Kvc t37 _ hl (by omega) (by simp) (by simp)) fun y51 ⟨_,t51⟩=>Kcp ⟨⟨hx17,hx28,by simp[AtS]⟩,t51.up (by omega) (by omega)⟩
   ·refine Kcq (Kvb t41 15 hl (by omega) (by omega) (by omega)) fun y53 t53=>?_
    refine Kcq (P:=fun q:Kyc×Kyh=>ClS q.2∧At l 0 (b+1+1000 * (j:Int)+350 * (n:Int)+100 * (u:Int)+30) q.1) ?_ fun q55 ⟨c55,t55⟩=>?_
    ·refine Kct (fun _=>?_) (fun _=>Kcp ⟨c41,t53.up (by omega) (by omega)⟩)
     refine Kcq (Kvf t53 hl (by omega)) fun y58 ⟨a58,t58⟩=>Kcp ⟨⟨c41.1,c41.2.1,a58⟩,t58.up (by omega) (by omega)⟩
    ·have hc27:=c27.1
     refine Kcx (by rw[List.length_singleton];omega) (Kcp ⟨Kvg c27 c55,t55.up (by omega) (by push_cast;omega)⟩)
  ·refine Kcq (Kvc t18 _ hl (by omega) (by simp) (by simp)) fun y63 ⟨_,t63⟩=>Kcp ⟨c18.up (by omega),t63.up (by omega) (by push_cast;omega)⟩
 ·refine Kcq (Kvb t6 20 hl (by omega) (by omega) (by omega)) fun y65 t65=>?_
  refine Kcq (P:=fun q:Kyc×(List Kyh)=>Cls (6 * many+1) q.2∧At l 0 (b+5000) q.1) ?_ fun q67 ⟨c67,t67⟩=>Kcp ⟨c67,t67⟩
  refine Kct (fun _=>?_) (fun _=>Kcp ⟨c6.up (by omega),t65.up (by omega) (by omega)⟩)
  refine Kcq (Kdd t65 0 1000 hl (by omega) (by omega) (by omega) (by omega) (by omega)) fun y70 t70=>?_
  refine Kcq (Kvd t70 _ hl (by omega) (by simp) (by simp)) fun y72 ⟨m72,t72⟩=>?_
  refine Kcq (Kvd t72 _ hl (by omega) (by simp) (by simp)) fun y74 ⟨m74,t74⟩=>?_
  refine Kcq (Kvf t74 hl (by omega)) fun y76 ⟨a76,t76⟩=>?_
  have hc6:=c6.1
  refine Kcx (by rw[List.length_singleton];omega) (Kcp ⟨Kvg c6 ⟨?_,?_,a76⟩,t76.up (by omega) (by omega)⟩)
  ·simp only[List.mem_cons,List.not_mem_nil,or_false] at m72
   rcases m72 with e | e<;>simp[e]
  ·simp only[List.mem_cons,List.not_mem_nil,or_false] at m74
   rcases m74 with e | e<;>simp[e]
theorem Kvi{l:List Int}{b:Int}{s:Kyc}(h:At l 0 b s)(hl:l.length≤9223372036854775807)(h1:b<3000000000000000000) :
  Ok (Kzc s) fun r=>At l 0 (b+20) r.2:=by
 unfold Kzc
 refine Kcq (Kvc h _ hl (by omega) (by simp) (by simp)) fun y1 ⟨_,t1⟩=>?_
 exact Kcq (Kvc t1 _ hl (by omega) (by simp) (by simp)) fun y3 ⟨_,t3⟩=>Kcp (t3.up (by omega) (by omega))
theorem Kvj{l:List Int}{b:Int}{s:Kyc}(h:At l 0 b s)(hl:l.length≤9223372036854775807)(h1:b<3000000000000000000) :
  Ok (Kzf s) fun r=>At l 0 (b+20) r.2:=by
 unfold Kzf
 refine Kcq (Kva h 300 hl (by omega) (by omega) (by omega)) fun y1 ⟨_,_,t1⟩=>?_
 refine Kcq (Kva t1 300 hl (by omega) (by omega) (by omega)) fun y3 ⟨_,_,t3⟩=>?_
 refine Kcq (Kvc t3 _ hl (by omega) (by simp) (by simp)) fun y5 ⟨_,t5⟩=>?_
 exact Kcq (Kvc t5 _ hl (by omega) (by simp) (by simp)) fun y7 ⟨_,t7⟩=>Kcp (t7.up (by omega) (by omega))
end Go.Gk
