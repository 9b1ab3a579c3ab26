/- The document's Plain: two states are one, thing by thing. -/
import Derived.Test.YtndcloohcfhejaaGreatM01
import Derived.Test.YtndcloohcfhejaaGreatM05
import Derived.Laws.StructEq
set_option linter.unusedVariables false
set_option linter.unusedSimpArgs false
namespace Go.Proofs.YtndcloohcfhejaaGreat
open Go.RowKit
deriving instance DecidableEq for En
deriving instance DecidableEq for Ino
deriving instance DecidableEq for Ds
deriving instance DecidableEq for St
end Go.Proofs.YtndcloohcfhejaaGreat
