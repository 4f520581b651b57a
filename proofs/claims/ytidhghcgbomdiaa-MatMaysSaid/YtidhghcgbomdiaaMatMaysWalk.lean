/-
  The walk of the law MatMays.
-/
import Derived.Test.YtidhghcgbomdiaaRows
import Derived.Test.YtidhghcgbomdiaaMatRefMay
import Derived.Test.YtidhghcgbomdiaaMatOpen
namespace Go.Proofs.Ytidhghcgbomdiaa.matMays
open Go.ChangeShapes Go.WideShapes Go.ChangeAt Go.RowKit Go.Proofs.Ytidhghcgbomdiaa.kit Go.Proofs.Ytidhghcgbomdiaa.mat
set_option linter.unusedVariables false
set_option maxRecDepth 100000 in
theorem walk {H : Type} (enc : TypeId × Value → H) (W : World) {base : Nat} {v0 : Value} {d0 : DataW H} {p0 : List MemPlace} (ok0 : Value.okWide Try.prog W .any base 28 v0) (h0 : DataW.Trod enc Try.prog W 0 (fun _ => true) true 28 v0 d0 p0)
    (hsz : (DataW.weightsEach Try.prog (Try.f10.params.toList ++ Rows.matMaysSpec.plain.varTypes Try.prog) ([d0] ++ [])).all (· ≤ reachBytes) = true) :
    Calls Try.prog 10 #[v0] W fun e W' => e = .returned (.bool true) ∧ Below W.heap.size W W' := by
  obtain ⟨A, n, c, R, L, C, M, rfl, hM, _⟩ := open_mat ok0 h0
  go_enter Try.func10, Try.ntmps10
  go_wp2_with fail
  refine (May_any _ _ _ _ _ _ _ _ hM).mono ?_
  rintro e w1 ⟨rfl, rfl⟩
  go_wp2_with fail
  refine (MatMay_any _ _ _ _ _ _ _ _ hM).mono ?_
  rintro e w1 ⟨rfl, rfl⟩
  go_wp2
  go_ret
  exact ⟨by simp, Below.refl _ _⟩
end Go.Proofs.Ytidhghcgbomdiaa.matMays
