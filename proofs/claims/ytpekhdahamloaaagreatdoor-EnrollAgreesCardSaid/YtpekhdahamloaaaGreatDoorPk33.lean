/- A signature that came in, opened. -/
import Derived.Test.YtpekhdahamloaaaGreatDoorPk24
import Derived.Test.YtpekhdahamloaaaGreatDoorPk30
import Derived.Test.YtpekhdahamloaaaGreatDoorPk18
import Derived.Lib.SmallJoins
import Derived.IntWalk
set_option linter.unusedVariables false
set_option linter.unusedSimpArgs false
namespace Go.Proofs.YtpekhdahamloaaaGreatDoor
open Go.ChangeShapes Go.WideShapes Go.ChangeAt Go.RowKit
end Go.Proofs.YtpekhdahamloaaaGreatDoor
