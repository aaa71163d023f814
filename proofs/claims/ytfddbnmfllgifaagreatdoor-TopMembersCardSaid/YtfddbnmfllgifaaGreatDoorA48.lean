/- Part of TopMembers. -/
import Derived.Test.YtfddbnmfllgifaaGreatDoorCards
import Derived.JoinedOf
set_option linter.unusedVariables false
set_option linter.unusedSimpArgs false
set_option maxHeartbeats 64000000
set_option maxRecDepth 100000
namespace Go.Proofs.YtfddbnmfllgifaaGreatDoor.topMembers
theorem and_of{a b:Bool}(h:a=true)(k:b=true):(a&&b)=true:=by rw[h,k];rfl
theorem facts:joinedFacts Tryz.pinned.checked.prog 3 Tryz.f3 Rows.topMembersSpec Rows.topMembersRow=true:=by
 unfold joinedFacts
 repeat' (with_reducible refine and_of ?_ ?_)
 all_goals(as_aux_lemma=>kernel_rfl)
end Go.Proofs.YtfddbnmfllgifaaGreatDoor.topMembers
