import Derived.Test.YtfnjahjbpaoepaaGreatDoorGk58
import Derived.Test.YtfnjahjbpaoepaaGreatDoorMStr6
import Derived.Test.YtfnjahjbpaoepaaGreatDoorLays
import Derived.Test.YtfnjahjbpaoepaaGreatDoorStr4
import Derived.Test.YtfnjahjbpaoepaaGreatDoorWrapX
import Derived.Test.YtfnjahjbpaoepaaGreatDoorLays3
import Derived.Shelf.Strconv.Atoi
set_option linter.all false
set_option maxRecDepth 100000
namespace Go.Proofs.YtfnjahjbpaoepaaGreatDoor
open Go.Gk Go.Shelf Go.RowKit Go.Sort Go.Lib
theorem Kxl{w:World}{O:Ow}{M:Mp}{x y:Value}(h1:x.oneCell'=true)(h2:y.oneCell'=true):VR w O M (.tup [.d (.v x),.d (.v y)]) (.tuple #[x,y]):=.tup rfl fun j g v hg hv=>by
 match j with
 | 0=>cases hg;cases hv;exact .d (.v _ h1)
 | 1=>cases hg;cases hv;exact .d (.v _ h2)
 | j+2=>cases hg
theorem Kxk{s:Str}{r:Int}(h:Kso s=some r):Pure Tryz.prog 168 [S s] (.tup [I r,.d (.v .nilIface)]):=by
 obtain⟨h1,h⟩:=Kgr h
 exact EC.of_belowX rfl fun w hT=>(Any.strconv_Atoi YtfnjahjbpaoepaaGreatDoor.l172 ⟨s.toArray⟩ r (by have:=Nat.le_of_ble_eq_true h1;simpa using this) h w).mono fun e w' ⟨he,t,hw⟩=>⟨_,_,he,rfl,fun O M=>Kxl rfl rfl,by subst hw;exact Lib.bytesWorld_below _ _ _⟩
end Go.Proofs.YtfnjahjbpaoepaaGreatDoor
