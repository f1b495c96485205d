import Derived.Test.YtjmlnnanfkiakaaGreatDoorSOk
set_option linter.all false
set_option maxRecDepth 100000
namespace Go.Gk
def keyT:List Str:=[[115,49],[115,50],[],[97,110,110],[98,111,98],[99,105,100],[122,101,100],[65],[110,97],[110,98],[110,99],[110,100],[107,49],[107,50],[98,111,120],[119,101,98],[109,97,99],[100,98],[110,111,110,101],[97],[98],[122,122]]
theorem Kyv:∀ x∈keyT,∃ b,Ldy 400 x=some b∧Ldf x=some b:=by
 intro x hx
 simp only[keyT,List.mem_cons,List.not_mem_nil,or_false] at hx
 rcases hx with rfl | rfl | rfl | rfl | rfl | rfl | rfl | rfl | rfl | rfl | rfl | rfl | rfl | rfl | rfl | rfl | rfl | rfl | rfl | rfl | rfl | rfl<;>exact⟨_,rfl,rfl⟩
def pubT:List Str:=[[48,97],[48,98],[48,99],[48,100],[48,101],[49,97],[49,98],[],[120,121,122],[48,65],List.replicate 21 97]
theorem Kyw:∀ x∈pubT,∃ b,Lef x=some b∧Ldo x=some b:=by
 intro x hx
 simp only[pubT,List.mem_cons,List.not_mem_nil,or_false] at hx
 rcases hx with rfl | rfl | rfl | rfl | rfl | rfl | rfl | rfl | rfl | rfl | rfl<;>exact⟨_,rfl,rfl⟩
def tagsT:List (List Str):=[[],[[119,101,98]],[[100,98]],[[100,98],[119,101,98]],[[110,111,110,101]],[[119,101,98],[100,98]],[[]],[[97],[98]]]
theorem Kyx:∀ x∈tagsT,∃ e,Ldz 400 x=some e∧Ldg x=some e∧x.length≤10:=by
 intro x hx
 simp only[tagsT,List.mem_cons,List.not_mem_nil,or_false] at hx
 rcases hx with rfl | rfl | rfl | rfl | rfl | rfl | rfl | rfl<;>exact⟨_,rfl,rfl,by decide⟩
def ndT:List Str:=[[],[110,97],[110,98],[110,99],[110,100]]
def jnT:List Str:=[[],[107,49],[107,50]]
theorem Kyy:∀ x∈ndT,x∈keyT:=by decide
theorem Kyz:∀ x∈jnT,x∈keyT:=by decide
structure StepOk(s:Lby):Prop where
 sv:s.Server∈keyT
 by_:s.By∈keyT
 nd:s.Node∈ndT
 jn:s.Join∈jnT
 nm:s.Name∈keyT
 pb:s.Public∈pubT
 tg:s.Tags∈tagsT
end Go.Gk
