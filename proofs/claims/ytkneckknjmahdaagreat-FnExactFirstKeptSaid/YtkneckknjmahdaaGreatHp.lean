/- What the laws' own helpers answer: marks of pieces. It proves nothing of a statement by itself. -/
import Derived.Test.YtkneckknjmahdaaGreatF4
import Derived.Test.YtkneckknjmahdaaGreatHt
import Derived.Test.YtkneckknjmahdaaGreatHe
import Derived.Test.YtkneckknjmahdaaGreatHs
import Derived.Test.YtkneckknjmahdaaGreatHm
set_option linter.unusedSimpArgs false
set_option linter.unusedVariables false
set_option maxRecDepth 100000
namespace Go.Proofs.YtkneckknjmahdaaGreat
open Go.AL
end Go.Proofs.YtkneckknjmahdaaGreat
