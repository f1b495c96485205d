import Derived.Test.YtjmlnnanfkiakaaGreatDoorFSteps
set_option linter.unusedVariables false
set_option linter.unusedSimpArgs false
set_option linter.unusedSectionVars false
set_option maxRecDepth 100000
namespace Go.Gk
section
variable {l:List Int} {b:Int} {s:Kay}
theorem or2_ok (a c:Int):Kcy [a,c]=some (if a≠0 then a else c):=by
 unfold Kcy
 by_cases ha:a=0
 ·by_cases hc:c=0
  ·subst ha hc; rfl
  ·have:(c != 0)=true:=by simpa using hc
   subst ha
   simp [rangeM,this,goI]
 ·have:(a != 0)=true:=by simpa using ha
  simp [rangeM,this,goI,ha]
theorem yard_d (h:At l 0 b s) (hl:Smal l) (hb:b<4611686018427200000) (many:Int) (hm:0≤many) (hm2:many≤14) :
  Ok (Kcz 400 s many) fun r=>(DirOk r.1.d∧AllS r.1.l∧r.1.l.length≤14∧∃ e,Kcn r.1.d=some e∧∃ e2,Kcx r.1.l=some e2∧r.1.fault=if e≠0 then e else e2)∧At l 0 (b+2000) r.2:=by
 unfold Kcz
 refine ok_bi (dir_d (show At l 0 b ⟨s.L,s.v_at⟩ from h) hl (by omega)) fun y1 h1=>?_
 refine ok_bi (steps_d h1.2 hl (by omega) many hm (by omega)) fun y3 h3=>?_
 obtain ⟨e0,he0,_⟩:=dir_o h1.1
 refine ok_eq he0 ?_
 obtain ⟨e,_,e2,_⟩:=log_two h3.1.1 (by omega)
 refine ok_eq e2 ?_
 rw [or2_ok]
 exact ok_some ⟨⟨h1.1,h3.1.1,by simp only; omega,e0,he0,e,e2,rfl⟩,h3.2.up (Int.le_refl _) (by omega)⟩
theorem noded_ok:Keu 400=some true:=by rfl
end
end Go.Gk
