/-
  The walk of the law GfLogs.
-/
import Derived.Test.YtidhghcgbomdiaaRows
import Derived.Test.YtidhghcgbomdiaaGfRef
namespace Go.Proofs.Ytidhghcgbomdiaa.gfLogs
open Go.ChangeShapes Go.WideShapes Go.ChangeAt Go.RowKit Go.Proofs.Ytidhghcgbomdiaa.kit Go.Proofs.Ytidhghcgbomdiaa.gf
set_option linter.unusedVariables false
theorem core (a0 : Int) (b0 : -9223372036854775808 ≤ a0 ∧ a0 ≤ 9223372036854775807) (w : World) : Calls Try.prog 9 #[.int .i64 a0] w fun e w' => e = .returned (.bool true) ∧ New w w' := by
  go_enter Try.func9, Try.ntmps9
  go_wp2_with (first | (go_at_call 25; refine (Log_any a0 _ b0.1 b0.2).mono ?_; rintro e w1 ⟨rfl, hb⟩) | (go_at_call 26; refine (GfLog_any _ _).mono ?_; rintro e w1 ⟨rfl, rfl⟩))
  go_ret
  exact ⟨rfl, hb⟩
theorem walk {H : Type} (enc : TypeId × Value → H) (W : World) {base : Nat} {v0 : Value} {d0 : DataW H} {p0 : List MemPlace} (ok0 : Value.okWide Try.prog W .any base 3 v0) (h0 : DataW.Trod enc Try.prog W 0 (fun _ => true) true 3 v0 d0 p0)
    (hsz : (DataW.weightsEach Try.prog (Try.f9.params.toList ++ Rows.gfLogsSpec.plain.varTypes Try.prog) ([d0] ++ [])).all (· ≤ reachBytes) = true) :
    Calls Try.prog 9 #[v0] W fun e W' => e = .returned (.bool true) ∧ Below W.heap.size W W' := by
  obtain ⟨a0, rfl, rfl, rfl, w0⟩ := open_int Try.underlying3 ok0 h0
  exact core _ (bounds_i64 w0) W
end Go.Proofs.Ytidhghcgbomdiaa.gfLogs
