import Derived.Test.YtfnjahjbpaoepaaGreatDoorProg
import Derived.Ground.NamesProg
import Derived.Shelf.Lays2
import Derived.Shelf.Unicode.ValidAny
namespace Go.Proofs
open Go.Shelf
def YtfnjahjbpaoepaaGreatDoor.l196_ren:Go.Shelf.Ren:=⟨fun | 196=>251 | 259=>316 | n=>n,fun | 9=>9 | 4=>4 | 3=>3 | 5=>5 | 12=>12 | 119=>326 | 0=>0 | 46=>213 | 139=>329 | 138=>328 | 53=>37 | n=>n,fun | 3=>1 | 4=>2 | n=>n⟩
theorem YtfnjahjbpaoepaaGreatDoor.l196:Go.Proofs.Lays.n196 Tryz.prog YtfnjahjbpaoepaaGreatDoor.l196_ren:={
 mixed:=by kernel_rfl
 f196:=Tryz.func251.trans (congrArg some (by kernel_rfl))
 f259:=Tryz.func316.trans (congrArg some (by kernel_rfl))
 t0:=Tryz.underlying0
 a0:=Tryz.isAgg0
 z0:=Tryz.sizeOf0
 v0:=Tryz.zeroValue0
 t3:=Tryz.underlying3
 a3:=Tryz.isAgg3
 z3:=Tryz.sizeOf3
 v3:=Tryz.zeroValue3
 t4:=Tryz.underlying4
 a4:=Tryz.isAgg4
 z4:=Tryz.sizeOf4
 v4:=Tryz.zeroValue4
 t5:=Tryz.underlying5
 a5:=Tryz.isAgg5
 z5:=Tryz.sizeOf5
 v5:=Tryz.zeroValue5
 t9:=Tryz.underlying9
 a9:=Tryz.isAgg9
 z9:=Tryz.sizeOf9
 v9:=Tryz.zeroValue9
 t12:=Tryz.underlying12
 a12:=Tryz.isAgg12
 z12:=Tryz.sizeOf12
 v12:=Tryz.zeroValue12
 t46:=Tryz.underlying213
 a46:=Tryz.isAgg213
 z46:=Tryz.sizeOf213
 v46:=Tryz.zeroValue213
 t53:=Tryz.underlying37
 a53:=Tryz.isAgg37
 z53:=Tryz.sizeOf37
 v53:=Tryz.zeroValue37
 t119:=Tryz.underlying326
 a119:=Tryz.isAgg326
 z119:=Tryz.sizeOf326
 t138:=Tryz.underlying328
 a138:=Tryz.isAgg328
 z138:=Tryz.sizeOf328
 v138:=Tryz.zeroValue328
 t139:=Tryz.underlying329
 a139:=Tryz.isAgg329
 z139:=Tryz.sizeOf329
 v139:=Tryz.zeroValue329
 g3:=by kernel_rfl
 g4:=by kernel_rfl }
end Go.Proofs
