/-
  An array by value: an element by its index.
-/
import Derived.Test.YtiffgeglbafenaaAlt
import Derived.Deep.MidRow
namespace Go.Proofs.Ytiffgeglbafenaa.kit
open Go.RowKit Go.Deep
set_option linter.unusedVariables false
theorem run_index_arr {P : Program} (t e : TypeId) (n : Nat) (d : TypeDesc) (hu : P.underlying t = some (.array n e)) (he : P.underlying e = some d) (hd : d.isRow = false) (hi : (P.info? e).map (·.size) = some 1)
    (cs : Array Value) (k : IntKind) (i : Nat) (v : Value) (hin : i < n) (hv : cs[i]? = some v) (w : World) :
    (Instr.index t (.agg cs) (.int k (i : Nat))).run P w = .ok v w := by
  have ha : (isAgg e).run P w = .ok false w := by
    unfold isAgg
    rw [Sem.run_bind, run_underlying he w]
    cases d <;> simp_all
  cases hq : P.info? e with
  | none => simp [hq] at hi
  | some j =>
    have hs : j.size = 1 := by simpa [hq] using hi
    simp [Instr.index, asIntOf, run_underlying hu, sizeOf, typeInfo, hq, hs, hin, part, ha, hv]
end Go.Proofs.Ytiffgeglbafenaa.kit
