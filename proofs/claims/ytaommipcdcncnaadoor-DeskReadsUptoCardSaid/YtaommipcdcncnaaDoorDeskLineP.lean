/-
  Contract of the reference's lineOf: what is asked.
-/
import Derived.Test.YtaommipcdcncnaaDoorDeskClear
namespace Go.Proofs.YtaommipcdcncnaaDoor.desk
open Go.ChangeShapes Go.WideShapes Go.ChangeAt Go.RowKit Go.Proofs.YtaommipcdcncnaaDoor.kit Go.Deep
set_option linter.unusedVariables false
set_option linter.unusedSimpArgs false
set_option maxRecDepth 100000
def LnP (f : Nat → Nat) (i : Nat) (C : Cu) (w : World) (e : Ending) (w' : World) : Prop := ∃ (x : Tx) (q : Cu) (b : Bool), e = .returned (.tuple #[encStr x, .agg (cuA 0 q), .bool b]) ∧ New w w' ∧ (b = true → ∃ ps, goS f (wordK i).2 C = some (ps, q) ∧ x = (wordK i).1 ++ tailT ps) ∧ (b = false → goS f (wordK i).2 C = none)
end Go.Proofs.YtaommipcdcncnaaDoor.desk
