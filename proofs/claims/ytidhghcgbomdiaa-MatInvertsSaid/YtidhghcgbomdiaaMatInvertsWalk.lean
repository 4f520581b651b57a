/-
  The walk of the law MatInverts.
-/
import Derived.Test.YtidhghcgbomdiaaRows
import Derived.Test.YtidhghcgbomdiaaMatInv
namespace Go.Proofs.Ytidhghcgbomdiaa.matInverts
open Go.ChangeShapes Go.WideShapes Go.ChangeAt Go.RowKit Go.Proofs.Ytidhghcgbomdiaa.kit Go.Proofs.Ytidhghcgbomdiaa.mat Go.Proofs.Ytidhghcgbomdiaa.fld
set_option linter.unusedVariables false
set_option maxRecDepth 100000 in
theorem walk {H : Type} (enc : TypeId × Value → H) (W : World) {base : Nat} {v0 : Value} {d0 : DataW H} {p0 : List MemPlace} (ok0 : Value.okWide Try.prog W .any base 28 v0) (h0 : DataW.Trod enc Try.prog W 0 (fun _ => true) true 28 v0 d0 p0)
    (hsz : (DataW.weightsEach Try.prog (Try.f14.params.toList ++ Rows.matInvertsSpec.plain.varTypes Try.prog) ([d0] ++ [])).all (· ≤ reachBytes) = true) :
    Calls Try.prog 14 #[v0] W fun e W' => e = .returned (.bool true) ∧ Below W.heap.size W W' := by
  obtain ⟨A, n, c, R, L, C, X, rfl, hA, _⟩ := open_mat ok0 h0
  obtain ⟨cd, hcd⟩ : ∃ cd, Hid (cd = ivCode n L X) := ⟨_, (rfl : _ = _)⟩
  obtain ⟨ln, hln⟩ : ∃ ln, Hid (ln = ivLen n L X) := ⟨_, (rfl : _ = _)⟩
  have hA0 := Lib.hid hA
  clear hA
  go_enter Try.func14, Try.ntmps14
  go_wp2_with fail
  refine (Invert_any _ _ _ _ _ _ _ _ hA0.out).mono ?_
  rw [← hcd.out, ← hln.out]
  rintro e w1 ⟨_, rfl, ⟨B1, d1, R1, C1, rfl, hR1⟩, hn1⟩
  go_wp2_with fail
  refine (MatInvert_any _ _ _ _ _ _ _ _ (hA0.out.new hn1)).mono ?_
  rw [← hcd.out, ← hln.out]
  rintro e w2 ⟨_, rfl, ⟨B2, d2, R2, C2, rfl, hR2⟩, hn2⟩
  go_wp2_with fail
  refine (sameMatrix_eq _ _ _ _ _ _ _ _ _ _ _ _ _ _ (hR1.new hn2) hR2 fun i hi => ⟨rfl, fun j hj => rfl⟩).mono ?_
  rintro e w3 ⟨rfl, hn3⟩
  go_wp2
  go_ret
  exact ⟨by simp, (hn1.next hn2).next hn3⟩
end Go.Proofs.Ytidhghcgbomdiaa.matInverts
