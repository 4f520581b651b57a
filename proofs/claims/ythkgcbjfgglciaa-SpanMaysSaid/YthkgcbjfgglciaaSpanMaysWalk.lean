/-
  The walk of the law SpanMays.
-/
import Derived.Test.YthkgcbjfgglciaaRows
import Derived.Test.YthkgcbjfgglciaaSpanSize
import Derived.Test.YthkgcbjfgglciaaSpanOpen
namespace Go.Proofs.Ythkgcbjfgglciaa.spanMays
open Go.ChangeShapes Go.WideShapes Go.ChangeAt Go.RowKit Go.Proofs.Ythkgcbjfgglciaa.kit Go.Proofs.Ythkgcbjfgglciaa.span
set_option linter.unusedVariables false
theorem core (A : Option Addr) (n c : Nat) (F T : Nat → Int) (w : World) (h : Rd w A n F T) : Calls Try.prog 3 #[.slice A n c] w fun e w' => e = .returned (.bool true) ∧ New w w' := by
  go_enter Try.func3, Try.ntmps3
  go_wp2_with fail
  refine (May_any _ _ _ _ _ _ h).mono ?_
  rintro e w1 ⟨rfl, hb1⟩
  go_wp2_with fail
  refine (SpanMay_any _ _ _ _ _ _ (h.new hb1)).mono ?_
  rintro e w2 ⟨rfl, hb2⟩
  go_wp2
  go_ret
  exact ⟨by simp, hb1.next hb2⟩
set_option maxRecDepth 100000 in
theorem walk {H : Type} (enc : TypeId × Value → H) (W : World) {base : Nat} {v0 : Value} {d0 : DataW H} {p0 : List MemPlace} (ok0 : Value.okWide Try.prog W .any base 22 v0) (h0 : DataW.Trod enc Try.prog W 0 (fun _ => true) true 22 v0 d0 p0)
    (hsz : (DataW.weightsEach Try.prog (Try.f3.params.toList ++ Rows.spanMaysSpec.plain.varTypes Try.prog) ([d0] ++ [])).all (· ≤ reachBytes) = true) :
    Calls Try.prog 3 #[v0] W fun e W' => e = .returned (.bool true) ∧ Below W.heap.size W W' := by
  obtain ⟨A, n, c, F, T, rfl, h, _⟩ := open_ranges ok0 h0
  exact core _ _ _ _ _ W h
end Go.Proofs.Ythkgcbjfgglciaa.spanMays
