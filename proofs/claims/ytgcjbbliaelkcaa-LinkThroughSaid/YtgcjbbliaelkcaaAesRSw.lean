/- The reference's table of all bytes swapped. Conditions stand in the statements. -/
import Derived.Test.YtgcjbbliaelkcaaAesRTms
import Derived.Test.YtgcjbbliaelkcaaSteps
import Derived.Test.YtgcjbbliaelkcaaQuiet
import Derived.Test.YtgcjbbliaelkcaaArr
import Derived.Test.YtgcjbbliaelkcaaArrRd
import Derived.Test.YtgcjbbliaelkcaaSteps2
import Derived.Test.YtgcjbbliaelkcaaAesArr
import Derived.Test.YtgcjbbliaelkcaaShaEq
import Derived.Deep.DeepCutAuto
import Derived.StillTailTactics
import Derived.Laws.ResultCell
set_option linter.unusedSimpArgs false
set_option linter.unusedVariables false
namespace Go.Proofs.Ytgcjbbliaelkcaa
open Go.RowKit

end Go.Proofs.Ytgcjbbliaelkcaa
