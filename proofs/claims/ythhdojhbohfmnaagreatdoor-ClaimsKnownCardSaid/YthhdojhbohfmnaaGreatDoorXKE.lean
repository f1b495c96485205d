import Derived.Test.YthhdojhbohfmnaaGreatDoorXKM
import Derived.Test.YthhdojhbohfmnaaGreatDoorGt
import Derived.Test.YthhdojhbohfmnaaGreatDoorGk64
set_option linter.all false
set_option maxRecDepth 100000
namespace Go.Proofs.YthhdojhbohfmnaaGreatDoor
open Go.Gk
abbrev Kws(x:Kwz):List D:=[Sl (eN .i64) x.L,.v (.int .i64 x.v_at)]
abbrev Kwt(x:Kxa):List D:=[.v (.int .i64 x.Kind),.v (.int .i64 x.Number),.v (.string ⟨x.Words.toArray⟩),.v (.int .i64 x.Version.1),.v (.int .i64 x.Version.2.1),.v (.int .i64 x.Version.2.2.1),.v (.int .i64 x.Version.2.2.2)]
abbrev Kwu(x:Kxb):List D:=[.v (.int .i64 x.At),.v (.string ⟨x.Node.toArray⟩),.v (.string ⟨x.Name.toArray⟩),.v (.int .i64 x.Value.Kind),.v (.int .i64 x.Value.Number),.v (.string ⟨x.Value.Words.toArray⟩),.v (.int .i64 x.Value.Version.1),.v (.int .i64 x.Value.Version.2.1),.v (.int .i64 x.Value.Version.2.2.1),.v (.int .i64 x.Value.Version.2.2.2)]
abbrev Kwv(x:Kxc):List D:=[.v (.string ⟨x.node.toArray⟩),.v (.string ⟨x.name.toArray⟩)]
abbrev Kww(x:Kxe):List D:=[.v (.string ⟨x.kind.toArray⟩),.v (.int .i64 x.v_at),.v (.int .i64 x.v_end),.v (.string ⟨x.name.toArray⟩),.v (.int .i64 x.value.Kind),.v (.int .i64 x.value.Number),.v (.string ⟨x.value.Words.toArray⟩),.v (.int .i64 x.value.Version.1),.v (.int .i64 x.value.Version.2.1),.v (.int .i64 x.value.Version.2.2.1),.v (.int .i64 x.value.Version.2.2.2)]
abbrev Kwx(x:Kxf):List D:=[.v (.string ⟨x.s.toArray⟩),.v (.string ⟨x.tok.kind.toArray⟩),.v (.int .i64 x.tok.v_at),.v (.int .i64 x.tok.v_end),.v (.string ⟨x.tok.name.toArray⟩),.v (.int .i64 x.tok.value.Kind),.v (.int .i64 x.tok.value.Number),.v (.string ⟨x.tok.value.Words.toArray⟩),.v (.int .i64 x.tok.value.Version.1),.v (.int .i64 x.tok.value.Version.2.1),.v (.int .i64 x.tok.value.Version.2.2.1),.v (.int .i64 x.tok.value.Version.2.2.2),.v (.bool x.bad),.v (.int .i64 x.v_at)]
theorem Kwy:KeyP Tryz.prog 242 (kD Kwv):=Kmh hΓ [242] Kwv (show Γ 242=some ⟨.struct _,_,_,_⟩ from rfl) (by kernel_rfl) (fun _=>rfl) (fun _=>rfl) (fun a b=>by
  show some (((a.node==b.node)&&((a.name==b.name)&&true)))=some (a==b)
  refine congrArg some ?_
  rw[Bool.eq_iff_iff]
  cases a;cases b;simp[Bool.and_eq_true]) (fun a b h=>by simpa using h) (fun a=>by simp) (fun a=>by simp[Instr.sameBits,kD,Kwv,Kmd])
end Go.Proofs.YthhdojhbohfmnaaGreatDoor
