/- What the laws' own helpers answer: comparisons. It proves nothing of a statement by itself. -/
import Derived.Test.YtcbecpjhgfkofaaG
set_option linter.unusedSimpArgs false
set_option linter.unusedVariables false
set_option maxRecDepth 100000
namespace Go.Proofs.Ytcbecpjhgfkofaa
open Go.AL
end Go.Proofs.Ytcbecpjhgfkofaa
