import Derived.Test.YtfnjahjbpaoepaaGreatDoorCards
import Derived.Test.YtfnjahjbpaoepaaGreatDoorTie
import Derived.WalkKit
import Derived.ProofKit
import Derived.LaidMore
import Derived.Lay
import Derived.Stop.Joined
namespace Go.Proofs.YtfnjahjbpaoepaaGreatDoor.stexts
set_option maxRecDepth 100000
theorem and2{a b:Bool}(h1:a=true)(h2:b=true):(a&&b)=true:=by rw[h1,h2];rfl
set_option maxHeartbeats 40000000 in
theorem closed:joinedFacts Tryz.pinned.checked.prog 5 Tryz.f5 (OpenSpec.ofChange Rows.stepTextsSpec).bare Rows.stepTextsRow=true:=by
 unfold joinedFacts
 repeat' (with_reducible refine and2 ?_ ?_)
 all_goals (as_aux_lemma=>kernel_rfl)
end Go.Proofs.YtfnjahjbpaoepaaGreatDoor.stexts
