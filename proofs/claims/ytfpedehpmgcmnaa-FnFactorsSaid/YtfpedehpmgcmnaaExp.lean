/-
  Contracts: how often a prime divides an integer.
-/
import Derived.Test.YtfpedehpmgcmnaaGood
import Derived.Test.YtfpedehpmgcmnaaPlain
import Derived.Handy
namespace Go.Proofs.Ytfpedehpmgcmnaa
open Go.RowKit
set_option linter.unusedSimpArgs false
set_option linter.unusedVariables false

end Go.Proofs.Ytfpedehpmgcmnaa
