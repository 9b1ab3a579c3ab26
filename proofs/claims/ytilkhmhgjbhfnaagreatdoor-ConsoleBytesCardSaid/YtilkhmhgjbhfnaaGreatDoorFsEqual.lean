/- The document's Plain: two states are one, thing by thing. -/
import Derived.Test.YtilkhmhgjbhfnaaGreatDoorM01
import Derived.Test.YtilkhmhgjbhfnaaGreatDoorM02
import Derived.Test.YtilkhmhgjbhfnaaGreatDoorM03
import Derived.Handy
import Derived.Laws.StructEq
set_option linter.unusedVariables false
set_option linter.unusedSimpArgs false
namespace Go.Proofs.YtilkhmhgjbhfnaaGreatDoor
open Go.RowKit
deriving instance DecidableEq for En
deriving instance DecidableEq for Ino
deriving instance DecidableEq for Ds
deriving instance DecidableEq for St
end Go.Proofs.YtilkhmhgjbhfnaaGreatDoor
