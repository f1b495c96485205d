import Derived.Test.YtmecneoeklldeaaGreatDoorGt
import Derived.Test.YtmecneoeklldeaaGreatDoorGk60
import Derived.Test.YtmecneoeklldeaaGreatDoorLays
import Derived.Shelf.RegionOpenPlain
import Derived.Lib.UnsafeStr
import Derived.Lib.Builder
import Derived.Laws.Externs
set_option linter.all false
set_option maxRecDepth 100000
namespace Go.Proofs.YtmecneoeklldeaaGreatDoor
open Go.Gk Go.Shelf Go.RowKit Go.Lib
theorem Kac:∃ j,Tryz.prog.info? 64=some j∧j.size≠0:=by
 obtain⟨_,inf,e1,e2,_⟩:=hΓ 64 _ rfl
 exact⟨inf,e1,by rw[e2];decide⟩
set_option maxHeartbeats 1000000 in
theorem Kad(b:Nat)(w:World)(h0:w.cell? ⟨b,0,none⟩=some (.pointer (some ⟨b,0,none⟩))):Calls Tryz.prog 71 #[.pointer (some ⟨b,0,none⟩)] w fun e w'=>e=.returned (.tuple #[])∧w'=w:=by
 obtain⟨j,hj,_⟩:=Kac
 go_enter Tryz.func71,Tryz.ntmps71
 go_wp2
 rw[Lib.run_neq_ptr_same w _ Tryz.underlying61 hj]
 go_wp2
 go_end0
 exact⟨rfl,rfl⟩
set_option maxHeartbeats 1000000 in
theorem Kae(b:Nat)(w:World)(h0:w.cell? ⟨b,0,none⟩=some (.pointer none))(hsh:w.shape? b=some (64,2))(hfz:w.frozen? ⟨b,0,none⟩=false) :
  Calls Tryz.prog 71 #[.pointer (some ⟨b,0,none⟩)] w fun e w'=>e=.returned (.tuple #[])∧w'=w.setCell ⟨b,0,none⟩ (.pointer (some ⟨b,0,none⟩)):=by
 obtain⟨j,hj,hjs⟩:=Kac
 go_enter Tryz.func71,Tryz.ntmps71
 go_wp2
 rw[Lib.run_to_unsafe w ⟨b,0,none⟩ Tryz.underlying61 Tryz.underlying139 hj hjs hsh (Nat.zero_lt_succ 1)]
 simp only[Result.andThen]
 rw[Oper.upon_value]
 go_wp2
 rw[run_callFunc_extern Tryz.func110 (by kernel_rfl) (by kernel_rfl) (by kernel_rfl) (e:=Extern.AbiNoEscape.same) (by kernel_rfl)]
 rw[Lib.run_noEscape]
 simp only[Result.andThen]
 rw[Oper.upon_value]
 go_wp2
 rw[Lib.run_from_unsafe w ⟨b,0,none⟩ Tryz.underlying139 Tryz.underlying61 hj hsh (by kernel_rfl)]
 simp only[Result.andThen]
 rw[Oper.upon_value]
 go_wp2
 go_end0
 exact⟨rfl,rfl⟩
theorem Kaa{s:Str}{r:Unit}(h:Kli s=some r):EC Tryz.prog 71 [.ptr 1 0] [.row 5 1 s.length (s.flatMap eU),.box 64 [.pn 1,.sl 0 s.length]] fun g hp'=>g=.tup []∧hp'=[.row 5 1 s.length (s.flatMap eU),.box 64 [.pn 1,.sl 0 s.length]]:=by
 intro Z w M vs hr hl hv
 obtain⟨l⟩:=vs
 match l,hl with
 | [v0],_=>
  have hv0:=hv 0 _ v0 rfl rfl
  cases hv0 with
  | ptr hM=>
   rename_i b c _
   obtain⟨cs,hb,hcl,hcr⟩:=hr.obj 1 _ _ rfl hM
   have hcl2:cs.size=2:=hcl
   obtain⟨u,hu,hu1,hur⟩:=hcr 0 _ rfl
   have hc0:w.cell? ⟨b,0,none⟩=some u:=by rw[Lib.cell_of_heap hb];exact hu
   have htup:∀ (w':World) (O:Ow),VR w' O M (.tup []) (.tuple #[]):=fun w' O=>.tup rfl fun j g v h=>by simp at h
   cases hur with
   | pnn _=>
    refine(Kae b w hc0 (by simp[World.shape?,hb,hcl2]) (Lib.frozen_of_heap hb 0)).mono ?_
    rintro e w' ⟨rfl,rfl⟩
    obtain⟨r1,r2⟩:=Kls (v:=.pointer (some ⟨b,0,none⟩)) (g':=.pn 1) (j:=0) hr rfl hM hb hcl hcr (Nat.zero_lt_succ 1) rfl (.pns hM) _ rfl
    exact⟨_,_,_,M,rfl,⟨rfl,rfl⟩,r1,htup _ _,r2,⟨Nat.le_of_eq hr.len.symm,fun _ _=>rfl⟩⟩
   | pns hM'=>
    rw[hM] at hM'
    cases hM'
    refine(Kad b w hc0).mono ?_
    rintro e w' ⟨rfl,rfl⟩
    exact⟨_,_,_,M,rfl,⟨rfl,rfl⟩,hr,htup _ _,.refl _ _,⟨Nat.le_of_eq hr.len.symm,fun _ _=>rfl⟩⟩
theorem Kaf(w:World)(p:Addr)(n k:Nat)(h:k≠p.block):(w.freeze p n).heap[k]?=w.heap[k]?:=by
 unfold World.freeze
 split
 ·rfl
 simp only[Array.getElem?_modify]
 rw[if_neg (Ne.symm h)]
theorem Kag(w:World)(p:Addr)(n:Nat):(w.freeze p n).heap.size=w.heap.size:=by
 unfold World.freeze
 split
 ·rfl
 simp
theorem Kah(w:World)(p:Addr)(n:Nat):(w.freeze p n).os=w.os∧(w.freeze p n).tape=w.tape∧(w.freeze p n).output=w.output:=by
 unfold World.freeze
 split
 ·exact⟨rfl,rfl,rfl⟩
 exact⟨rfl,rfl,rfl⟩
set_option maxHeartbeats 2000000 in
theorem Kai(b:Nat)(l:List UInt8)(p v:Value)(w:World)(hbk:w.heap[b]?=some (.cells #[p,v] 64 (0,0)))
  (hv:(v=.slice none 0 0∧l=[])∨∃ (g cap:Nat) (cur:Array Value),v=.slice (some ⟨g,0,none⟩) l.length cap∧w.heap[g]?=some (.cells cur 5 (0,0))∧l.length≤cap∧cap≤maxLen∧cur.size=cap * 1∧∀ (j:Nat) (x:UInt8),l[j]?=some x→cur[j]?=some (Value.int .u8 x.toNat)) :
  Calls Tryz.prog 34 #[.pointer (some ⟨b,0,none⟩)] w fun e w'=>e=.returned (.string ⟨l.toArray⟩)∧w'.os=w.os∧w'.tape=w.tape∧w'.output=w.output∧w.heap.size≤w'.heap.size∧
   ∀ k,k<w.heap.size→(∀ g n c,v=.slice (some ⟨g,0,none⟩) n c→k≠g)→w'.heap[k]?=w.heap[k]?:=by
 have c1:∀ W:World,W.heap[b]?=some (.cells #[p,v] 64 (0,0))→W.cell? ⟨b,1,none⟩=some v:=fun W h=>by rw[Lib.cell_of_heap h];rfl
 have mixed:Tryz.prog.follows .mixedOrders=true:=hmix
 have hblt:b<w.heap.size:=(Array.getElem?_eq_some_iff.1 hbk).1
 rcases hv with⟨rfl,rfl⟩ | ⟨g,cap,cur,rfl,hg,hnc,hcm,hcs,hcell⟩
 ·have d1:w.drew.cell? ⟨b,1,none⟩=some (.slice none 0 0):=c1 _ hbk
  have hSD:(Builtin.unsafeSliceData_ #[62] 110 #[.slice none 0 0]).run Tryz.prog w.drew=.ok (.pointer none) w.drew:=rfl
  have hUS:∀ (W:World) (q:Option Addr),(Builtin.unsafeString_ #[110,3] 9 #[.pointer q,.int .i64 0]).run Tryz.prog W=.ok (.string .empty) W:=fun W q=>Lib.run_unsafeString_none W _ _ _ q
  go_enter Tryz.func34,Tryz.ntmps34
  go_wp2
  go_region_o
  all_goals (go_wp2;go_ret;exact⟨rfl,rfl,rfl,rfl,Nat.le_refl _,fun _ _ _=>rfl⟩)
 ·by_cases hl0:l=[]
  ·subst hl0
   have hUS:∀ (W:World) (q:Option Addr),(Builtin.unsafeString_ #[110,3] 9 #[.pointer q,.int .i64 0]).run Tryz.prog W=.ok (.string .empty) W:=fun W q=>Lib.run_unsafeString_none W _ _ _ q
   have d1:w.drew.cell? ⟨b,1,none⟩=some (.slice (some ⟨g,0,none⟩) 0 cap):=c1 _ hbk
   by_cases hc0:cap=0
   ·subst hc0
    have hSD:(Builtin.unsafeSliceData_ #[62] 110 #[.slice (some ⟨g,0,none⟩) 0 0]).run Tryz.prog w.drew=.ok (.pointer (some ⟨w.drew.heap.size,0,none⟩)) (w.drew.alloc (.view ⟨g,0,none⟩ 5)):=
     Lib.run_unsafeSliceData_zero w.drew _ _ 5 Tryz.underlying110 ⟨g,0,none⟩ 0 (5,cur.size) (by have hg':w.drew.heap[g]?=some (.cells cur 5 (0,0)):=hg;simp[World.shape?,hg'])
    have c2:(w.drew.alloc (.view ⟨g,0,none⟩ 5)).cell? ⟨b,1,none⟩=some (.slice (some ⟨g,0,none⟩) 0 0):=c1 _ ((Lib.alloc_old w.drew _ b hblt).trans hbk)
    have c3:(w.alloc (.view ⟨g,0,none⟩ 5)).drew.cell? ⟨b,1,none⟩=some (.slice (some ⟨g,0,none⟩) 0 0):=c2
    have c0:w.cell? ⟨b,1,none⟩=some (.slice (some ⟨g,0,none⟩) 0 0):=d1
    go_enter Tryz.func34,Tryz.ntmps34
    go_wp2
    go_region_o
    all_goals (go_wp2;go_ret;exact⟨rfl,rfl,rfl,rfl,by
     show w.heap.size≤(w.heap.push _).size
     rw[Array.size_push];exact Nat.le_succ _,fun k hk _=>Lib.alloc_old w.drew _ k hk⟩)
   ·have hSD:(Builtin.unsafeSliceData_ #[62] 110 #[.slice (some ⟨g,0,none⟩) 0 cap]).run Tryz.prog w.drew=.ok (.pointer (some ⟨g,0,none⟩)) w.drew:=Lib.run_unsafeSliceData_row _ _ _ _ _ _ hc0
    clear hc0
    go_enter Tryz.func34,Tryz.ntmps34
    go_wp2
    go_region_o
    all_goals (go_wp2;go_ret;exact⟨rfl,rfl,rfl,rfl,Nat.le_refl _,fun _ _ _=>rfl⟩)
  ·have hlen:l.length≠0:=by simpa using hl0
   have d1:w.drew.cell? ⟨b,1,none⟩=some (.slice (some ⟨g,0,none⟩) l.length cap):=c1 _ hbk
   have hSD:(Builtin.unsafeSliceData_ #[62] 110 #[.slice (some ⟨g,0,none⟩) l.length cap]).run Tryz.prog w.drew=.ok (.pointer (some ⟨g,0,none⟩)) w.drew:=Lib.run_unsafeSliceData_row _ _ _ _ _ _ (by omega)
   have hUS:(Builtin.unsafeString_ #[110,3] 9 #[.pointer (some ⟨g,0,none⟩),.int .i64 l.length]).run Tryz.prog w.drew=.ok (.string ⟨l.toArray⟩) (w.drew.freeze ⟨g,0,none⟩ l.length):=by
    refine Lib.run_unsafeString_row w.drew 110 3 9 5 Tryz.underlying110 (by kernel_rfl) g cur.size (by have hg':w.drew.heap[g]?=some (.cells cur 5 (0,0)):=hg;simp[World.shape?,hg']) l hl0 (by omega) (by unfold maxLen at hcm;omega) ?_
    intro j x hx
    rw[Addr.add_lit,Nat.zero_add]
    have hg':w.drew.heap[g]?=some (.cells cur 5 (0,0)):=hg
    rw[Lib.cell_of_heap hg']
    exact hcell j x hx
   clear hlen
   go_enter Tryz.func34,Tryz.ntmps34
   go_wp2
   go_region_o
   all_goals (go_wp2;go_ret;exact⟨rfl,(Kah _ _ _).1,(Kah _ _ _).2.1,(Kah _ _ _).2.2,Nat.le_of_eq (Kag w.drew _ _).symm,fun k hk hne=>Kaf w.drew _ _ k (hne g _ _ rfl)⟩)
theorem Kab{s r:Str}(h:Klj s=some r):EC Tryz.prog 34 [.ptr 1 0] [.row 5 1 s.length (s.flatMap eU),.box 64 [.pn 1,.sl 0 s.length]] fun g hp'=>g=S r∧hp'=[.dead,.dead]:=by
 cases h
 intro Z w M vs hr hl hv
 obtain⟨l⟩:=vs
 match l,hl with
 | [v0],_=>
  have hv0:=hv 0 _ v0 rfl rfl
  cases hv0 with
  | ptr hM=>
   rename_i b c _
   obtain⟨cs,hb,hcl,hcr⟩:=hr.obj 1 _ _ rfl hM
   obtain⟨p,hp,_,_⟩:=hcr 0 _ rfl
   obtain⟨v,hv1,_,hvr⟩:=hcr 1 _ rfl
   have hcs:cs=#[p,v]:=by
    obtain⟨l⟩:=cs
    match l,hcl,hp,hv1 with
    | [x,y],_,hp,hv1=>simp at hp hv1;subst hp;subst hv1;rfl
   subst hcs
   have hbag:¬ hasBag [Ob.row 5 1 s.length (s.flatMap eU),.box 64 [.pn 1,.sl 0 s.length]]:=by
    rintro⟨i,al,ar,lt,h⟩
    match i,h with
    | 0,h=>cases h
    | 1,h=>cases h
    | i+2,h=>simp at h
   have hdead:∀ (i:Nat) (o:Ob),([Ob.dead,.dead]:List Ob)[i]?=some o→o=.dead:=fun i o h=>by
    match i,h with
    | 0,h=>cases h;rfl
    | 1,h=>cases h;rfl
    | i+2,h=>simp at h
   have key:((v=.slice none 0 0∧s=[])∨∃ (g cap:Nat) (cur:Array Value),v=.slice (some ⟨g,0,none⟩) s.length cap∧w.heap[g]?=some (.cells cur 5 (0,0))∧s.length≤cap∧cap≤maxLen∧cur.size=cap * 1∧∀ (j:Nat) (x:UInt8),s[j]?=some x→cur[j]?=some (Value.int .u8 x.toNat))∧
     ∀ g n c,v=.slice (some ⟨g,0,none⟩) n c→∃ c',M.l[0]?=some (some (g,c')):=by
    generalize hn:s.length=n at hvr
    cases hvr with
    | slnil _=>exact⟨.inl ⟨rfl,List.eq_nil_of_length_eq_zero hn⟩,fun g n c e=>by cases e⟩
    | sl hM0 hnc hcm=>
     rename_i g c' _
     subst hn
     obtain⟨_,cur,hg,hcur,h1,h2,hd⟩:=hr.obj 0 _ _ rfl hM0
     refine⟨.inr ⟨g,c',cur,rfl,hg,hnc,hcm,hcur,fun j x hx=>?_⟩,fun g n c e=>by cases e;exact⟨_,hM0⟩⟩
     obtain⟨u,hu,hur⟩:=hd j (.v (.int .u8 x.toNat)) (by rw[Klt];simp[strD,hx])
     rw[hu,vr_v (M:=M) (.d hur)]
   refine(Kai b s p v w hb key.1).mono ?_
   rintro e w' ⟨rfl,os,tape,out,size,keep⟩
   obtain⟨r1,r2⟩:=hr.wreck (hp':=[.dead,.dead]) hbag hdead rfl size (fun k hk hno=>keep k hk fun g n c e hkg=>hno (by
    subst hkg
    obtain⟨c',hM0⟩:=key.2 k n c e
    exact⟨0,_,c',rfl,rfl,hM0⟩)) os tape out
   exact⟨_,_,_,M,rfl,⟨rfl,rfl⟩,r1,.d (.v _ rfl),r2,⟨Nat.le_of_eq hr.len.symm,fun _ _=>rfl⟩⟩
end Go.Proofs.YtmecneoeklldeaaGreatDoor
