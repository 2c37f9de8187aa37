/- The verifier of one instruction. -/
import Derived.Test.YtignpklaefibaaaSaf
namespace Go.Proofs.Ytignpklaefibaaa
set_option linter.unusedSimpArgs false
set_option linter.unusedVariables false
open Go.RowKit
end Go.Proofs.Ytignpklaefibaaa
