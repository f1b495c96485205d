import Derived.Test.YtjmlnnanfkiakaaGreatDoorFSteps
set_option linter.all false
set_option maxRecDepth 100000
namespace Go.Gk
section
variable{l:List Int}{b:Int}{s:Lbv}
theorem Kda(a c:Int):Ldv [a,c]=some (if a≠0 then a else c):=by
 unfold Ldv
 by_cases ha:a=0
 ·by_cases hc:c=0
  ·subst ha hc;rfl
  have:(c != 0)=true:=by simpa using hc
  subst ha
  simp[rangeM,this,goI]
 have:(a != 0)=true:=by simpa using ha
 simp[rangeM,this,goI,ha]
theorem Kdb(h:At l 0 b s)(hl:Smal l)(hb:b<4611686018427200000)(many:Int)(hm:0≤many)(hm2:many≤14) :
  Ok (Ldw 400 s many) fun r=>(DirOk r.1.d∧AllS r.1.l∧r.1.l.length≤14∧∃ e,Ldk r.1.d=some e∧∃ e2,Ldu r.1.l=some e2∧r.1.fault=if e≠0 then e else e2)∧At l 0 (b+2000) r.2:=by
 unfold Ldw
 refine Lac (Kah (show At l 0 b ⟨s.L,s.v_at⟩ from h) hl (by omega)) fun y1 h1=>?_
 refine Lac (Kcz h1.2 hl (by omega) many hm (by omega)) fun y3 h3=>?_
 obtain⟨e0,he0,_⟩:=Kxf h1.1
 refine Lad he0 ?_
 obtain⟨e,_,e2,_⟩:=Laa h3.1.1 (by omega)
 refine Lad e2 ?_
 rw[Kda]
 exact Lab ⟨⟨h1.1,h3.1.1,by simp only;omega,e0,he0,e,e2,rfl⟩,h3.2.up (Int.le_refl _) (by omega)⟩
theorem Kdc:Lgy 400=some true:=by rfl
end
end Go.Gk
