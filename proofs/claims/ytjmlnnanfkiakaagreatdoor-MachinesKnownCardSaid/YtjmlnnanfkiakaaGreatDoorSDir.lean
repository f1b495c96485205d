import Derived.Test.YtjmlnnanfkiakaaGreatDoorSForm4
set_option linter.all false
set_option maxRecDepth 100000
namespace Go.Gk
theorem Kwy(l:List Str)(v:Str):Ldi l v=some (l.any fun x=>v==x):=by
 unfold Ldi Ldh
 rw[Kzf (fun x=>v==x) l (fun j x _=>by cases (v==x)<;>rfl),bi_some,Kzc]
theorem Kwz{x:Str}(h:x∈keyT):Ldy 400 x=Ldf x:=by
 obtain⟨b,h1,h2⟩:=Kyv x h
 rw[h1,h2]
theorem Kxa{l:List Str}(h:∀ x∈l,x∈keyT):Ldz 400 l=Ldg l:=by
 unfold Ldz Ldg
 rw[Kxw l 0 () fun j x s hx=>by rw[Kwz (h x hx)]]
theorem Kxb{α:Type}{l:List α}{i:Nat}{x:α}{g:α→Option Bool}(hx:l[i]?=some x)(hl:l.length≤100000)(hg:∀ y,Ok (g y) fun _=>True) :
  Ok (bif decide (((i:Int):Int)>0) then(bi (getZ l (wi ((i:Int) - 1))) g) else(some false)) fun _=>True:=by
 refine Laf (fun h=>?_) fun _=>Lab trivial
 have hi:(i:Int)>0:=of_decide_eq_true h
 have hil:i<l.length:=(List.getElem?_eq_some_iff.1 hx).1
 refine Lal (j:=i - 1) (x:=l[i - 1]) ?_ (List.getElem?_eq_getElem (by omega)) (hg _)
 rw[Kxl (by omega) (by omega)];omega
theorem Kxc{l:List Str}(h:∀ x∈l,x∈keyT)(hl:l.length≤100000):Ok (Ldg l) fun _=>True:=by
 unfold Ldg
 refine Lac (Laj (fun _ _=>True) (fun _=>True) trivial fun i x s hx _=>?_) fun r _=>by cases r<;>exact Lab trivial
 obtain⟨b,_,hb⟩:=Kyv x (h x (List.mem_of_getElem? hx))
 refine Lad hb ?_
 refine Laf (fun _=>Lab trivial) fun _=>?_
 refine Lac (Kxb hx hl fun y=>Lab trivial) fun q _=>?_
 exact Laf (fun _=>Lab trivial) fun _=>Lab trivial
structure DirOk(d:Lbx):Prop where
 us:∀ x∈d.Users,x∈keyT
 ul:d.Users.length≤10
 ow:∀ o∈d.Owners,o.Tag∈keyT∧o.Users.length≤10
 ol:d.Owners.length≤10
theorem Kxd(n a b:Int):Lea n a b=bi (Ldj n a b) fun y=>some (!y):=by
 obtain⟨c,h1,h2⟩:=Kya n a b
 rw[h1,h2,bi_some,Bool.not_not]
theorem Kxe{d:Lbx}(h:DirOk d):Leb 400 d=Ldk d:=by
 unfold Leb Ldk
 rw[Kxa h.us,Kxw d.Owners 0 () fun j x s hx=>by rw[Kwz (h.ow x hx).1]]
 obtain⟨c,h1,h2⟩:=Kya d.Life 1 345686400
 rw[h1,h2]
 cases c<;>rfl
theorem Kxf{d:Lbx}(h:DirOk d):Ok (Ldk d) fun _=>True:=by
 unfold Ldk
 have h1:=h.ul;have h2:=h.ol
 refine Laf (fun _=>Lab trivial) fun _=>?_
 refine Lac (Kxc h.us (by omega)) fun y _=>?_
 refine Laf (fun _=>Lab trivial) fun _=>?_
 refine Laf (fun _=>Lab trivial) fun _=>?_
 refine Lac (P:=fun _=>True) (Lae (Laj (fun _ _=>True) (fun _=>True) trivial fun i x s hx _=>?_) fun _ _=>trivial) fun r _=>?_
 ·obtain⟨hx1,hx2⟩:=h.ow x (List.mem_of_getElem? hx)
  obtain⟨b,_,hb⟩:=Kyv _ hx1
  refine Lad hb ?_
  refine Laf (fun _=>Lab trivial) fun _=>?_
  refine Lac (Kxb hx (by omega) fun y=>Lab trivial) fun q _=>?_
  refine Laf (fun _=>Lab trivial) fun _=>?_
  refine Lac (P:=fun _=>True) (Lae (Laj (fun _ _=>True) (fun q=>match q with | .go _=>True | .out _=>True) trivial fun i y s hy _=>?_) fun _ _=>trivial) fun r _=>?_
  ·rw[Kwy,bi_some]
   refine Laf (fun _=>Lab trivial) fun _=>?_
   refine Lac (Kxb hy (by omega) fun y=>Lab trivial) fun q _=>?_
   exact Laf (fun _=>Lab trivial) fun _=>Lab trivial
  cases r with
  | go s=>exact Lab trivial
  | out q=>cases q<;>exact Lab trivial
 cases r with
 | out q=>exact Lab trivial
 | go s=>
  simp only[goI]
  exact Lac (P:=fun _=>True) (Lab trivial) fun y _=>Laf (fun _=>Lab trivial) fun _=>Lab trivial
theorem Kxg{α ρ:Type}{f:Nat→α→Unit→Option (LS Unit ρ)}(p:α→Bool)(g:α→ρ):∀ (l:List α) (i:Nat),(∀ j x,f j x ()=some (bif p x then .out (g x) else .go ()))→rangeM f i l ()=some (match l.find? p with | some x=>.out (g x) | none=>.go ())
 | [],i,_=>rfl
 | x :: l,i,h=>by
  simp only[rangeM,h,List.find?_cons]
  cases p x with
  | true=>rfl
  | false=>exact Kxg p g l (i+1) h
theorem Kxh{α:Type}{p:α→Bool}:∀ {l:List α} {i:Nat} {a:α},l.findIdx? p=some i→l[i]?=some a→l.find? p=some a
 | [],i,a,h,_=>by cases h
 | x :: l,i,a,h,ha=>by
  rw[List.findIdx?_cons] at h
  rw[List.find?_cons]
  cases hp:p x with
  | true=>
   rw[hp,if_pos rfl] at h
   cases h
   simpa using ha
  | false=>
   rw[hp] at h
   simp only[Bool.false_eq_true,if_false] at h
   cases hi:l.findIdx? p with
   | none=>rw[hi] at h;cases h
   | some j=>
    rw[hi] at h
    simp only[Option.map_some,Option.some.injEq] at h
    subst h
    exact Kxh hi (by simpa using ha)
theorem Kxi{α:Type}{p:α→Bool}{l:List α}(h:l.any p=false):l.find? p=none:=by
 rw[List.find?_eq_none]
 simpa using h
theorem Kxj(d:Lbx)(u t:Str):Lfa d u t=some (match d.Owners.find? (fun o=>o.Tag==t) with | some o=>(o.Users.any fun x=>u==x,true) | none=>(false,false)):=by
 unfold Lfa Lez
 rw[Kzf (fun o:Lbw=>o.Tag==t) d.Owners (fun j x _=>by unfold Ley;cases (x.Tag==t)<;>rfl),bi_some,Kzc]
 cases h:d.Owners.any (fun o=>o.Tag==t) with
 | false=>rw[Kxi h];rfl
 | true=>
  obtain⟨i,a,h1,h2,h3,h4,h5⟩:=Kzb h
  rw[h1,Kxh h2 h3,cond_true,Kwi h3,bi_some,Kwy];rfl
theorem Kxk(d:Lbx)(t:Str):Lfu d t=some (match d.Owners.find? (fun o=>o.Tag==t) with | some o=>(o.Users,true) | none=>([],false)):=by
 unfold Lfu
 rw[Kxg (fun o:Lbw=>o.Tag==t) (fun o=>(o.Users,true)) d.Owners 0 (fun j x=>by cases h:(x.Tag==t)<;>rfl)]
 cases d.Owners.find? (fun o=>o.Tag==t)<;>rfl
end Go.Gk
