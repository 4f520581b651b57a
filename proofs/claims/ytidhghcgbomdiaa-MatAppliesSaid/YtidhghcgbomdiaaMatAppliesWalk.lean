/-
  The walk of the law MatApplies.
-/
import Derived.Test.YtidhghcgbomdiaaRows
import Derived.Test.YtidhghcgbomdiaaMatRefApply
namespace Go.Proofs.Ytidhghcgbomdiaa.matApplies
open Go.ChangeShapes Go.WideShapes Go.ChangeAt Go.RowKit Go.Proofs.Ytidhghcgbomdiaa.kit Go.Proofs.Ytidhghcgbomdiaa.mat
set_option linter.unusedVariables false
set_option maxRecDepth 100000 in
theorem walk {H : Type} (enc : TypeId × Value → H) (W : World) {base : Nat} {v0 : Value} {d0 : DataW H} {p0 : List MemPlace} (ok0 : Value.okWide Try.prog W .any base 28 v0) (h0 : DataW.Trod enc Try.prog W 0 (fun _ => true) true 28 v0 d0 p0) {v1 : Value} {d1 : DataW H} {p1 : List MemPlace} (ok1 : Value.okWide Try.prog W .any base 30 v1) (h1 : DataW.Trod enc Try.prog W 0 (fun _ => true) true 30 v1 d1 p1)
    (hsz : (DataW.weightsEach Try.prog (Try.f11.params.toList ++ Rows.matAppliesSpec.plain.varTypes Try.prog) ([d0, d1] ++ [])).all (· ≤ reachBytes) = true) :
    Calls Try.prog 11 #[v0, v1] W fun e W' => e = .returned (.bool true) ∧ Below W.heap.size W W' := by
  obtain ⟨A, n, c, R, L, C, M, rfl, hM, _⟩ := open_mat ok0 h0
  obtain ⟨V, nv, cv, Y, rfl, hV, _⟩ := open_ints ok1 h1
  obtain ⟨cd, hcd⟩ : ∃ cd, Hid (cd = apCode n L M nv Y) := ⟨_, (rfl : _ = _)⟩
  obtain ⟨ln, hln⟩ : ∃ ln, Hid (ln = apLen n L M nv Y) := ⟨_, (rfl : _ = _)⟩
  go_enter Try.func11, Try.ntmps11
  go_wp2_with fail
  refine (Apply_any _ _ _ _ _ _ _ _ _ _ _ _ hM hV).mono ?_
  rw [← hcd.out, ← hln.out]
  rintro e w1 ⟨_, rfl, ⟨B1, d1, rfl, hR1⟩, hn1⟩
  go_wp2_with fail
  refine (MatApply_any _ _ _ _ _ _ _ _ _ _ _ _ (hM.new hn1) (hV.new hn1)).mono ?_
  rw [← hcd.out, ← hln.out]
  rintro e w2 ⟨_, rfl, ⟨B2, d2, rfl, hR2⟩, hn2⟩
  go_wp2_with fail
  refine (sameInts_eq _ _ _ _ _ _ _ _ (hR1.new hn2) hR2 fun i hi => rfl).mono ?_
  rintro e w3 ⟨rfl, hn3⟩
  go_wp2
  go_ret
  exact ⟨by simp, (hn1.next hn2).next hn3⟩
end Go.Proofs.Ytidhghcgbomdiaa.matApplies
