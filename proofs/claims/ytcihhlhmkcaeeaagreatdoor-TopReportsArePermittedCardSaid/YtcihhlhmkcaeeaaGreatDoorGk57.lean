import Derived.Test.YtcihhlhmkcaeeaaGreatDoorGk49
import Derived.Test.YtcihhlhmkcaeeaaGreatDoorGk55
import Derived.Test.YtcihhlhmkcaeeaaGreatDoorGk56
import Derived.Shelf.SlSortCmp.NoneTotal
set_option linter.all false
namespace Go.Gk
open Go.Sort Go.Proofs Go.Shelf
theorem Knf{P:Program}{f:FuncId}{gs:List G}{r:Value}(h:Pure P f gs (.d (.v r))){vs:Array Value}(hsz:vs.size=gs.length){Z:Env}{w:World}{M:Mp}(hr:RelH Z [] M w)
  (hvs:∀ (j:Nat) (g:G) (v:Value),gs[j]?=some g→vs[j]?=some v→VR w (ownZ Z [] M) M g v):Calls P f vs w fun e w'=>e=.returned r∧∃ q os',w'=Sort.grow (w.drewN q) os':=by
 have h1:=h Z w M vs hr hsz hvs
 refine(Kne h1 fun e w' ⟨v,g,hp',M',he,_⟩=>⟨v,he⟩).mono ?_
 rintro e w' ⟨⟨v,g,hp',M',rfl,⟨rfl,rfl⟩,h3,h4,h5,h6⟩,hd⟩
 refine⟨by rw[vr_v h4],w'.drawn - w.drawn,w'.heap.extract w.heap.size w'.heap.size,?_⟩
 have hh:w'.heap=w.heap++w'.heap.extract w.heap.size w'.heap.size:=by
  apply Array.ext_getElem?
  intro i
  by_cases hi:i<w.heap.size
  ·rw[Array.getElem?_append_left hi,h5.keep i hi Kob]
  ·rw[Array.getElem?_append_right (by omega),Array.getElem?_extract]
   by_cases hi2:i<w'.heap.size
   ·rw[if_pos (by omega)]
    congr 1
    omega
   ·rw[if_neg (by omega),Array.getElem?_eq_none (by omega)]
 have e1:=h5.os;have e2:=h5.tape;have e3:=h5.output
 cases w'
 cases w
 simp only[Sort.grow,World.drewN] at *
 simp only[World.mk.injEq]
 exact⟨hh,e2,by omega,e1,e3⟩
theorem Kng{α:Type}[Inhabited α](enc:α→List Value)(k:Nat)(hk:∀ x,(enc x).length=k)(l:List α):(Sort.flatK enc k l.toArray).toList=l.flatMap enc:=by
 have key:∀ (l:List α) (t:Nat),t<l.length * k→(l.flatMap enc)[t]?=some ((enc l[t / k]!)[t % k]!):=by
  intro l
  induction l with
  | nil=>intro t h;simp at h
  | cons x l ih=>
   intro t h
   rw[List.flatMap_cons]
   have k0:0<k:=by
    rcases Nat.eq_zero_or_pos k with h0 | h0
    ·subst h0;simp at h
    exact h0
   by_cases ht:t<k
   ·rw[gAl (by rw[hk];exact ht),Nat.div_eq_of_lt ht,Nat.mod_eq_of_lt ht]
    simp only[List.getElem!_cons_zero]
    rw[getElem!_pos (enc x) t (by rw[hk];exact ht),gGe]
   obtain⟨u,rfl⟩:∃ u,t=u+k:=⟨t - k,by omega⟩
   rw[gAr (by rw[hk];omega),hk,Nat.add_sub_cancel,ih u (by rw[List.length_cons,Nat.add_mul,Nat.one_mul] at h;omega),Nat.add_div_right _ k0,Nat.add_mod_right]
   simp only[Nat.succ_eq_add_one,List.getElem!_cons_succ]
 have hlen:(l.flatMap enc).length=l.length * k:=by
  induction l with
  | nil=>simp
  | cons x l ih=>rw[List.flatMap_cons,List.length_append,ih,hk,List.length_cons,Nat.add_mul,Nat.one_mul,Nat.add_comm]
 apply List.ext_getElem?
 intro t
 by_cases h:t<l.length * k
 ·rw[key l t h]
  have h2:t<(Sort.flatK enc k l.toArray).size:=by simpa using h
  rw[Array.getElem?_toList,Array.getElem?_eq_getElem h2,←getElem!_pos (Sort.flatK enc k l.toArray) t h2,Sort.get_flatK _ _ _ t (by simpa using h)]
  simp
 rw[List.getElem?_eq_none (by simpa using h),List.getElem?_eq_none (by rw[hlen];omega)]
section
variable{P:Program}{ρ:Ren}{Γ:TypeId→Option TI}{α:Type}[Inhabited α]
theorem Knh(enc:α→List Value)(h1:∀ x,∀ v∈enc x,v.oneCell'=true)(x:α)(w:World)(O:Ow)(M:Mp):VR w O M (.agg ((enc x).map fun v=>.d (.v v))) (.agg (enc x).toArray):=by
 refine .agg (by simp) fun j g v hg hv=>?_
 rw[gMp] at hg
 obtain⟨u,hu,rfl⟩:=oMs.1 hg
 have hv':(enc x)[j]?=some v:=by simpa using hv
 rw[hu] at hv'
 cases hv'
 exact .d (.v _ (h1 x _ (mOg hu)))
theorem Kni{o:Ob}{Z:Env}{M:Mp}{w:World}{b c:Nat}(hr:RelH Z [o] M w)(hl:o.live=true)(hM:M.l[0]?=some (some (b,c))):RelH (zB Z [b]) [] ⟨[],M.h⟩ w:=by
 refine⟨rfl,fun i o m h=>by simp at h,fun x hx=>absurd hx Kob,fun x hx=>?_,hr.amb,fun i j oi oj b c c' h=>by simp at h,⟨fun x hx=>⟨(hr.bags.tgs x hx).1,fun _=>Knz⟩,fun i j _ _ _ _ _ _ h=>by simp at h,fun i _ _ _ h=>by simp at h,hr.bags.hds⟩⟩
 rcases hx with hx | hx
 ·exact hr.old x hx
 obtain rfl:x=b:=by simpa using hx
 exact hr.block_ob ⟨0,o,c,rfl,hl,hM⟩
end
end Go.Gk
