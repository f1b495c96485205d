import Derived.Test.YtfnjahjbpaoepaaGreatDoorGt
import Derived.Test.YtfnjahjbpaoepaaGreatDoorMStr3
import Derived.Test.YtfnjahjbpaoepaaGreatDoorLays
import Derived.Shelf.Spec.TrailingZeros
import Derived.Lib.AppendIntMem
import Derived.Laws.BitsLemmas
import Derived.Shelf.Strconv.Itoa3
set_option linter.all false
set_option maxRecDepth 100000
namespace Go.Proofs.YtfnjahjbpaoepaaGreatDoor
open Go.Gk Go.Shelf Go.RowKit Go.Sort Go.Lib
theorem Lgm {w:World} (h:TabX w):Lib.TabIs Tryz.prog w "internal/strconv.uint64pow10" .u64 Lib.pow10Tab:=by
 obtain⟨t,e,h⟩:=h.2.2.1
 unfold Lib.TabIs World.var?
 rw[show Tryz.prog.globalNamed "internal/strconv.uint64pow10" = some 3 by kernel_rfl]
 show(match w.heap[3]? with | some (.cells cs _ _)=>some cs | _=>none)=_
 rw[h]
theorem Kxg{n:Int}{r:Str}(h:Ksj n=some r):Pure Tryz.prog 56 [I n] (S r):=by
 obtain⟨h1,h⟩:=Kgr h
 cases h
 rw[Bool.and_eq_true,decide_eq_true_eq,decide_eq_true_eq] at h1
 exact Pure.of_belowX rfl rfl fun w hT=>(Tryz.strconv_Itoa n h1.1 h1.2 w (Lgm hT)).mono fun e w' ⟨he,k,os,hw⟩=>⟨he,by subst hw;exact Lib.below_grow w.heap.size w (Nat.le_refl _) k os⟩
end Go.Proofs.YtfnjahjbpaoepaaGreatDoor
