/-
  The walk of the law Names.
-/
import Derived.Test.YtpknpmmcploacaaRows
import Derived.Test.YtpknpmmcploacaaNamesCore
namespace Go.Proofs.Ytpknpmmcploacaa.names
open Go.ChangeShapes Go.WideShapes Go.ChangeAt Go.RowKit Go.Proofs.Ytpknpmmcploacaa.kit
set_option linter.unusedVariables false
set_option maxRecDepth 100000 in
theorem walk {H : Type} (enc : TypeId × Value → H) (W : World)
    (hsz : (DataW.weightsEach Try.prog (Try.f3.params.toList ++ Rows.namesSpec.plain.varTypes Try.prog) (([] : List (DataW H)) ++ [])).all (· ≤ reachBytes) = true) :
    Calls Try.prog 3 #[] W fun e W' => e = .returned (.bool true) ∧ Below W.heap.size W W' := core W
end Go.Proofs.Ytpknpmmcploacaa.names
