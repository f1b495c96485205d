import Derived.Test.YtjmlnnanfkiakaaGreatDoorSForm4
set_option linter.unusedVariables false
set_option linter.unusedSimpArgs false
set_option linter.unusedSectionVars false
set_option maxRecDepth 100000
namespace Go.Gk
theorem contS_ok (l:List Str) (v:Str):Kcl l v=some (l.any fun x=>v==x):=by
 unfold Kcl Kck
 rw [bi_rangeM_ix (fun x=>v==x) l (fun j x _=>by cases (v==x)<;>rfl),bi_some,ixZ_ge]
theorem key_eq {x:Str} (h:x∈keyT):Kda 400 x=Kci x:=by
 obtain ⟨b,h1,h2⟩:=key_tab x h
 rw [h1,h2]
theorem rising_eq {l:List Str} (h:∀ x∈l,x∈keyT):Kdb 400 l=Kcj l:=by
 unfold Kdb Kcj
 rw [rangeM_congr l 0 () fun j x s hx=>by rw [key_eq (h x hx)]]
theorem prev_o {α:Type} {l:List α} {i:Nat} {x:α} {g:α→Option Bool} (hx:l[i]?=some x) (hl:l.length≤100000) (hg:∀ y,Ok (g y) fun _=>True) :
  Ok (bif decide (((i:Int):Int)>0) then (bi (getZ l (wi ((i:Int) - 1))) g) else (some false)) fun _=>True:=by
 refine ok_bif (fun h=>?_) fun _=>ok_some trivial
 have hi:(i:Int)>0:=of_decide_eq_true h
 have hil:i<l.length:=(List.getElem?_eq_some_iff.1 hx).1
 refine ok_get (j:=i - 1) (x:=l[i - 1]) ?_ (List.getElem?_eq_getElem (by omega)) (hg _)
 rw [wi_id (by omega) (by omega)]; omega
theorem rising_o {l:List Str} (h:∀ x∈l,x∈keyT) (hl:l.length≤100000):Ok (Kcj l) fun _=>True:=by
 unfold Kcj
 refine ok_bi (ok_rangeM (fun _ _=>True) (fun _=>True) trivial fun i x s hx _=>?_) fun r _=>by cases r<;>exact ok_some trivial
 obtain ⟨b,_,hb⟩:=key_tab x (h x (List.mem_of_getElem? hx))
 refine ok_eq hb ?_
 refine ok_bif (fun _=>ok_some trivial) fun _=>?_
 refine ok_bi (prev_o hx hl fun y=>ok_some trivial) fun q _=>?_
 exact ok_bif (fun _=>ok_some trivial) fun _=>ok_some trivial
structure DirOk (d:Kba):Prop where
 us:∀ x∈d.Users,x∈keyT
 ul:d.Users.length≤10
 ow:∀ o∈d.Owners,o.Tag∈keyT∧o.Users.length≤10
 ol:d.Owners.length≤10
theorem outside_not (n a b:Int):Kdc n a b=bi (Kcm n a b) fun y=>some (!y):=by
 obtain ⟨c,h1,h2⟩:=outside_in n a b
 rw [h1,h2,bi_some,Bool.not_not]
theorem dir_eq {d:Kba} (h:DirOk d):Kdd 400 d=Kcn d:=by
 unfold Kdd Kcn
 rw [rising_eq h.us,rangeM_congr d.Owners 0 () fun j x s hx=>by rw [key_eq (h.ow x hx).1]]
 obtain ⟨c,h1,h2⟩:=outside_in d.Life 1 345686400
 rw [h1,h2]
 cases c<;>rfl
theorem dir_o {d:Kba} (h:DirOk d):Ok (Kcn d) fun _=>True:=by
 unfold Kcn
 have h1:=h.ul; have h2:=h.ol
 refine ok_bif (fun _=>ok_some trivial) fun _=>?_
 refine ok_bi (rising_o h.us (by omega)) fun y _=>?_
 refine ok_bif (fun _=>ok_some trivial) fun _=>?_
 refine ok_bif (fun _=>ok_some trivial) fun _=>?_
 refine ok_bi (P:=fun _=>True) (ok_mono (ok_rangeM (fun _ _=>True) (fun _=>True) trivial fun i x s hx _=>?_) fun _ _=>trivial) fun r _=>?_
 ·obtain ⟨hx1,hx2⟩:=h.ow x (List.mem_of_getElem? hx)
  obtain ⟨b,_,hb⟩:=key_tab _ hx1
  refine ok_eq hb ?_
  refine ok_bif (fun _=>ok_some trivial) fun _=>?_
  refine ok_bi (prev_o hx (by omega) fun y=>ok_some trivial) fun q _=>?_
  refine ok_bif (fun _=>ok_some trivial) fun _=>?_
  refine ok_bi (P:=fun _=>True) (ok_mono (ok_rangeM (fun _ _=>True) (fun q=>match q with | .go _=>True | .out _=>True) trivial fun i y s hy _=>?_) fun _ _=>trivial) fun r _=>?_
  ·rw [contS_ok,bi_some]
   refine ok_bif (fun _=>ok_some trivial) fun _=>?_
   refine ok_bi (prev_o hy (by omega) fun y=>ok_some trivial) fun q _=>?_
   exact ok_bif (fun _=>ok_some trivial) fun _=>ok_some trivial
  ·cases r with
   | go s=>exact ok_some trivial
   | out q=>cases q<;>exact ok_some trivial
 ·cases r with
  | out q=>exact ok_some trivial
  | go s=>
   simp only [goI]
   exact ok_bi (P:=fun _=>True) (ok_some trivial) fun y _=>ok_bif (fun _=>ok_some trivial) fun _=>ok_some trivial
theorem rangeM_find {α ρ:Type} {f:Nat→α→Unit→Option (LS Unit ρ)} (p:α→Bool) (g:α→ρ):∀ (l:List α) (i:Nat),(∀ j x,f j x ()=some (bif p x then .out (g x) else .go ()))→rangeM f i l ()=some (match l.find? p with | some x=>.out (g x) | none=>.go ())
 | [],i,_=>rfl
 | x :: l,i,h=>by
  simp only [rangeM,h,List.find?_cons]
  cases p x with
  | true=>rfl
  | false=>exact rangeM_find p g l (i+1) h
theorem find_ix {α:Type} {p:α→Bool}:∀ {l:List α} {i:Nat} {a:α},l.findIdx? p=some i→l[i]?=some a→l.find? p=some a
 | [],i,a,h,_=>by cases h
 | x :: l,i,a,h,ha=>by
  rw [List.findIdx?_cons] at h
  rw [List.find?_cons]
  cases hp:p x with
  | true=>
   rw [hp,if_pos rfl] at h
   cases h
   simpa using ha
  | false=>
   rw [hp] at h
   simp only [Bool.false_eq_true,if_false] at h
   cases hi:l.findIdx? p with
   | none=>rw [hi] at h; cases h
   | some j=>
    rw [hi] at h
    simp only [Option.map_some,Option.some.injEq] at h
    subst h
    exact find_ix hi (by simpa using ha)
theorem find_no {α:Type} {p:α→Bool} {l:List α} (h:l.any p=false):l.find? p=none:=by
 rw [List.find?_eq_none]
 simpa using h
theorem owns_ok (d:Kba) (u t:Str):Kec d u t=some (match d.Owners.find? (fun o=>o.Tag==t) with | some o=>(o.Users.any fun x=>u==x,true) | none=>(false,false)):=by
 unfold Kec Keb
 rw [bi_rangeM_ix (fun o:Kaz=>o.Tag==t) d.Owners (fun j x _=>by unfold Kea; cases (x.Tag==t)<;>rfl),bi_some,ixZ_ge]
 cases h:d.Owners.any (fun o=>o.Tag==t) with
 | false=>rw [find_no h]; rfl
 | true=>
  obtain ⟨i,a,h1,h2,h3,h4,h5⟩:=ixZ_some h
  rw [h1,find_ix h2 h3,cond_true,getZ_nn h3,bi_some,contS_ok]; rfl
theorem ownersOf_ok (d:Kba) (t:Str):Kew d t=some (match d.Owners.find? (fun o=>o.Tag==t) with | some o=>(o.Users,true) | none=>([],false)):=by
 unfold Kew
 rw [rangeM_find (fun o:Kaz=>o.Tag==t) (fun o=>(o.Users,true)) d.Owners 0 (fun j x=>by cases h:(x.Tag==t)<;>rfl)]
 cases d.Owners.find? (fun o=>o.Tag==t)<;>rfl
end Go.Gk
