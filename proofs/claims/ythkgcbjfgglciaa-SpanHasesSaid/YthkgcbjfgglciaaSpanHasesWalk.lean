/-
  The walk of the law SpanHases.
-/
import Derived.Test.YthkgcbjfgglciaaRows
import Derived.Test.YthkgcbjfgglciaaSpanHas
import Derived.Test.YthkgcbjfgglciaaSpanOpen
namespace Go.Proofs.Ythkgcbjfgglciaa.spanHases
open Go.ChangeShapes Go.WideShapes Go.ChangeAt Go.RowKit Go.Proofs.Ythkgcbjfgglciaa.kit Go.Proofs.Ythkgcbjfgglciaa.span
set_option linter.unusedVariables false
theorem core (A : Option Addr) (n c : Nat) (F T : Nat → Int) (m : Int) (w : World) (h : Rd w A n F T) : Calls Try.prog 6 #[.slice A n c, .int .i64 m] w fun e w' => e = .returned (.bool true) ∧ New w w' := by
  go_enter Try.func6, Try.ntmps6
  go_wp2_with fail
  refine (Has_any _ _ _ _ _ m _ h).mono ?_
  rintro e w1 ⟨rfl, hb1⟩
  go_wp2_with fail
  refine (SpanHas_any _ _ _ _ _ m _ (h.new hb1)).mono ?_
  rintro e w2 ⟨rfl, hb2⟩
  go_wp2
  go_ret
  exact ⟨by simp, hb1.next hb2⟩
set_option maxRecDepth 100000 in
theorem walk {H : Type} (enc : TypeId × Value → H) (W : World) {base : Nat} {v0 : Value} {d0 : DataW H} {p0 : List MemPlace} (ok0 : Value.okWide Try.prog W .any base 22 v0) (h0 : DataW.Trod enc Try.prog W 0 (fun _ => true) true 22 v0 d0 p0) {v1 : Value} {d1 : DataW H} {p1 : List MemPlace} (ok1 : Value.okWide Try.prog W .any base 3 v1) (h1 : DataW.Trod enc Try.prog W 0 (fun _ => true) true 3 v1 d1 p1)
    (hsz : (DataW.weightsEach Try.prog (Try.f6.params.toList ++ Rows.spanHasesSpec.plain.varTypes Try.prog) ([d0, d1] ++ [])).all (· ≤ reachBytes) = true) :
    Calls Try.prog 6 #[v0, v1] W fun e W' => e = .returned (.bool true) ∧ Below W.heap.size W W' := by
  obtain ⟨A, n, c, F, T, rfl, h, _⟩ := open_ranges ok0 h0
  obtain ⟨a1, rfl, rfl, rfl, w1⟩ := open_int Try.underlying3 ok1 h1
  exact core _ _ _ _ _ _ W h
end Go.Proofs.Ythkgcbjfgglciaa.spanHases
