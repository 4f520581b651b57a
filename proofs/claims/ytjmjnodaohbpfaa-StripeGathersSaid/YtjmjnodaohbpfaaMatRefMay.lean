/-
  Contract of the reference: may a matrix be.
-/
import Derived.Test.YtjmjnodaohbpfaaMatMay
namespace Go.Proofs.Ytjmjnodaohbpfaa.mat
open Go.ChangeShapes Go.WideShapes Go.ChangeAt Go.RowKit Go.Proofs.Ytjmjnodaohbpfaa.kit
set_option linter.unusedVariables false

end Go.Proofs.Ytjmjnodaohbpfaa.mat
