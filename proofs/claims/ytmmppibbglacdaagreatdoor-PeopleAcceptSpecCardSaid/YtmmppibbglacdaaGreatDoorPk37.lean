/- A signature that came in, opened. -/
import Derived.Test.YtmmppibbglacdaaGreatDoorPk28
import Derived.Test.YtmmppibbglacdaaGreatDoorPk34
import Derived.Test.YtmmppibbglacdaaGreatDoorPk20
import Derived.Lib.SmallJoins
import Derived.IntWalk
set_option linter.unusedVariables false
set_option linter.unusedSimpArgs false
namespace Go.Proofs.YtmmppibbglacdaaGreatDoor
open Go.ChangeShapes Go.WideShapes Go.ChangeAt Go.RowKit
end Go.Proofs.YtmmppibbglacdaaGreatDoor
