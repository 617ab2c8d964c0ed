/-
  Walks over dominoref01: Cmp, Add, Sub.
-/
import Derived.Test.YtchnjdiolnpabaaDoorRef3
namespace Go.Proofs.YtchnjdiolnpabaaDoor
open Go.RowKit
set_option linter.unusedVariables false

end Go.Proofs.YtchnjdiolnpabaaDoor
