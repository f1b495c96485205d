import Derived.Test.YthhdojhbohfmnaaGreatDoorGt
import Derived.Test.YthhdojhbohfmnaaGreatDoorMStr9
import Derived.Test.YthhdojhbohfmnaaGreatDoorGk58
import Derived.Test.YthhdojhbohfmnaaGreatDoorLays
import Derived.Shelf.Strconv.Itoa3
import Derived.Lib.AppendIntMem
import Derived.Shelf.Strings.SlTrimAscii
import Derived.Shelf.Strings.Replace
set_option linter.all false
set_option maxRecDepth 100000
namespace Go.Proofs.YthhdojhbohfmnaaGreatDoor
open Go.Gk Go.Shelf Go.RowKit Go.Sort Go.Lib
theorem Kun{w:World}{O:Ow}{M:Mp}{r:Int}{e:Value}(h2:e.oneCell'=true):VR w O M (.tup [I r,.d (.v e)]) (.tuple #[.int .i64 r,e]):=.tup rfl fun j g v hg hv=>by
 match j with
 | 0=>cases hg;cases hv;exact .d (.v _ rfl)
 | 1=>cases hg;cases hv;exact .d (.v _ h2)
 | j+2=>cases hg
theorem Kum{s:Str}{r:Int}(h:Ktl s=some r):Pure Tryz.prog 225 [S s] (.tup [I r,.d (.v .nilIface)]):=by
 obtain⟨h1,h⟩:=Kfw h
 exact EC.of_belowX rfl fun w hT=>(Tryz.strconv_Atoi ⟨s.toArray⟩ r (by have:=Nat.le_of_ble_eq_true h1;simpa using this) h w).mono fun e w' ⟨he,t,hw⟩=>⟨_,_,he,rfl,fun O M=>Kun rfl,by subst hw;exact Lib.bytesWorld_below _ _ _⟩
end Go.Proofs.YthhdojhbohfmnaaGreatDoor
