/- chartroomlaw04.sane returns true: the chapter's examples. The contracts of package group at elements, by numbers; chartroomlaw04.element. -/
import Derived.Test.YtmmppibbglacdaaGreatDoorPk23
import Derived.Test.YtmmppibbglacdaaGreatDoorPk11
set_option linter.unusedVariables false
set_option linter.unusedSimpArgs false
namespace Go.Proofs.YtmmppibbglacdaaGreatDoor
open Go.RowKit Go.Shelf

theorem powP_pm (a k : Nat) (hk : k < 18446744073709551616) : powP a k = Num.powMod 4611686018427377339 64 a k := (Num.powMod_eq 4611686018427377339 64 a k hk).symm

theorem el4 : elemB 4 = true := by
  show elemB ((4 : Nat) : Int) = true
  exact elemB_of (by decide) (by decide) (by rw [powP_pm 4 2305843009213688669 (by decide)]; decide +kernel)
end Go.Proofs.YtmmppibbglacdaaGreatDoor

namespace Go.Proofs.YtmmppibbglacdaaGreatDoor
open Go.RowKit Go.Shelf

theorem elemB_El {n : Nat} (h : El n) : elemB (n : Int) = true := elemB_of h.1 h.2.1 h.2.2
end Go.Proofs.YtmmppibbglacdaaGreatDoor
