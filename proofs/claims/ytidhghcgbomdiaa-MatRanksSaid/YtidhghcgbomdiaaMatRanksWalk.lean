/-
  The walk of the law MatRanks.
-/
import Derived.Test.YtidhghcgbomdiaaRows
import Derived.Test.YtidhghcgbomdiaaMatRank
namespace Go.Proofs.Ytidhghcgbomdiaa.matRanks
open Go.ChangeShapes Go.WideShapes Go.ChangeAt Go.RowKit Go.Proofs.Ytidhghcgbomdiaa.kit Go.Proofs.Ytidhghcgbomdiaa.mat
set_option linter.unusedVariables false
set_option maxRecDepth 100000 in
theorem walk {H : Type} (enc : TypeId × Value → H) (W : World) {base : Nat} {v0 : Value} {d0 : DataW H} {p0 : List MemPlace} (ok0 : Value.okWide Try.prog W .any base 28 v0) (h0 : DataW.Trod enc Try.prog W 0 (fun _ => true) true 28 v0 d0 p0)
    (hsz : (DataW.weightsEach Try.prog (Try.f13.params.toList ++ Rows.matRanksSpec.plain.varTypes Try.prog) ([d0] ++ [])).all (· ≤ reachBytes) = true) :
    Calls Try.prog 13 #[v0] W fun e W' => e = .returned (.bool true) ∧ Below W.heap.size W W' := by
  obtain ⟨A, n, c, R, L, C, X, rfl, hA, _⟩ := open_mat ok0 h0
  obtain ⟨rv, hrv⟩ : ∃ rv, Hid (rv = rkVal n L X) := ⟨_, rfl⟩
  obtain ⟨cd, hcd⟩ : ∃ cd, Hid (cd = rkCode n L X) := ⟨_, rfl⟩
  have hA0 := Lib.hid hA
  clear hA
  go_enter Try.func13, Try.ntmps13
  go_wp2_with fail
  refine (Rank_any _ _ _ _ _ _ _ _ hA0.out).mono ?_
  rw [← hrv.out, ← hcd.out]
  rintro e w1 ⟨rfl, hn1⟩
  go_wp2_with fail
  refine (MatRank_any _ _ _ _ _ _ _ _ (hA0.out.new hn1)).mono ?_
  rw [← hrv.out, ← hcd.out]
  rintro e w2 ⟨rfl, hn2⟩
  go_wp2
  go_ret
  exact ⟨by simp, hn1.next hn2⟩
end Go.Proofs.Ytidhghcgbomdiaa.matRanks
