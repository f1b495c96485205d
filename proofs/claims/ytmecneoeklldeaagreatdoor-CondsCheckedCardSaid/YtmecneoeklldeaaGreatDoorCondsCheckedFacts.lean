import Derived.Test.YtmecneoeklldeaaGreatDoorCards
import Derived.Test.YtmecneoeklldeaaGreatDoorTie
import Derived.WalkKit
import Derived.ProofKit
import Derived.LaidMore
import Derived.Lay
import Derived.Stop.Joined
namespace Go.Proofs.YtmecneoeklldeaaGreatDoor.ccheck
set_option maxRecDepth 100000
theorem and2{a b:Bool}(h1:a=true)(h2:b=true):(a&&b)=true:=by rw[h1,h2];rfl
set_option maxHeartbeats 40000000 in
theorem closed:joinedFacts Tryz.pinned.checked.prog 4 Tryz.f4 (OpenSpec.ofChange Rows.condsCheckedSpec).bare Rows.condsCheckedRow=true:=by
 unfold joinedFacts
 repeat' (with_reducible refine and2 ?_ ?_)
 all_goals (as_aux_lemma=>kernel_rfl)
end Go.Proofs.YtmecneoeklldeaaGreatDoor.ccheck
