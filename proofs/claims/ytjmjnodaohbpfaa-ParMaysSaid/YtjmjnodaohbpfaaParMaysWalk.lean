/-
  The walk of the law ParMays.
-/
import Derived.Test.YtjmjnodaohbpfaaRows
import Derived.Test.YtjmjnodaohbpfaaParMay
namespace Go.Proofs.Ytjmjnodaohbpfaa.parMays
open Go.ChangeShapes Go.WideShapes Go.ChangeAt Go.RowKit Go.Proofs.Ytjmjnodaohbpfaa.kit Go.Proofs.Ytjmjnodaohbpfaa.par
set_option linter.unusedVariables false
set_option maxRecDepth 100000 in
theorem walk {H : Type} (enc : TypeId × Value → H) (W : World) {base : Nat} {v0 : Value} {d0 : DataW H} {p0 : List MemPlace} (ok0 : Value.okWide Try.prog W .any base 22 v0) (h0 : DataW.Trod enc Try.prog W 0 (fun _ => true) true 22 v0 d0 p0)
    (hsz : (DataW.weightsEach Try.prog (Try.f3.params.toList ++ Rows.parMaysSpec.plain.varTypes Try.prog) ([d0] ++ [])).all (· ≤ reachBytes) = true) :
    Calls Try.prog 3 #[v0] W fun e W' => e = .returned (.bool true) ∧ Below W.heap.size W W' := by
  obtain ⟨A, n, c, R, L, C, M, rfl, hM, _⟩ := open_cols ok0 h0
  go_enter Try.func3, Try.ntmps3
  go_wp2_with fail
  refine (May_any _ _ _ _ _ _ _ _ hM).mono ?_
  rintro e w1 ⟨rfl, hn1⟩
  go_wp2_with fail
  refine (ParMay_any _ _ _ _ _ _ _ _ (hM.new hn1)).mono ?_
  rintro e w1 ⟨rfl, rfl⟩
  go_wp2
  go_ret
  exact ⟨by simp, hn1⟩
end Go.Proofs.Ytjmjnodaohbpfaa.parMays
