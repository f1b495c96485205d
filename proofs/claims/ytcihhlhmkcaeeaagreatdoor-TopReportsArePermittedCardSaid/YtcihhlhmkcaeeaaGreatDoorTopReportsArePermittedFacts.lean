import Derived.Test.YtcihhlhmkcaeeaaGreatDoorCards
import Derived.Test.YtcihhlhmkcaeeaaGreatDoorTie
import Derived.WalkKit
import Derived.ProofKit
import Derived.LaidMore
import Derived.Lay
import Derived.Stop.Joined
namespace Go.Proofs.YtcihhlhmkcaeeaaGreatDoor.treports
set_option maxRecDepth 100000
theorem and2{a b:Bool}(h1:a=true)(h2:b=true):(a&&b)=true:=by rw[h1,h2];rfl
set_option maxHeartbeats 40000000 in
theorem closed:joinedFacts Tryz.pinned.checked.prog 3 Tryz.f3 (OpenSpec.ofChange Rows.topReportsArePermittedSpec).bare Rows.topReportsArePermittedRow=true:=by
 unfold joinedFacts
 repeat' (with_reducible refine and2 ?_ ?_)
 all_goals (as_aux_lemma=>kernel_rfl)
end Go.Proofs.YtcihhlhmkcaeeaaGreatDoor.treports
