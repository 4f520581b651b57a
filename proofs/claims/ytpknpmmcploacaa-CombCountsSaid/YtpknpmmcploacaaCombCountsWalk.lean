/-
  The walk of the law CombCounts.
-/
import Derived.Test.YtpknpmmcploacaaRows
import Derived.Test.YtpknpmmcploacaaComb
import Derived.Test.YtpknpmmcploacaaOpen
namespace Go.Proofs.Ytpknpmmcploacaa.combCounts
open Go.ChangeShapes Go.WideShapes Go.ChangeAt Go.RowKit Go.Proofs.Ytpknpmmcploacaa.kit Go.Proofs.Ytpknpmmcploacaa.comb
set_option linter.unusedVariables false
theorem core (a0 a1 : Int) (w : World) : Calls Try.prog 10 #[.int .i64 a0, .int .i64 a1] w fun e w' => e = .returned (.bool true) ∧ New w w' := by
  by_cases h : combP a0 a1
  · obtain ⟨n, rfl⟩ : ∃ n : Nat, (n : Int) = a0 := ⟨a0.toNat, by have := h.1; omega⟩
    obtain ⟨k, rfl⟩ : ∃ k : Nat, (k : Int) = a1 := ⟨a1.toNat, by have := h.2.2.1; omega⟩
    have hn : n ≤ 12 := by have := h.2.1; omega
    have hk : k ≤ n := by have := h.2.2.2; omega
    obtain ⟨q, hq⟩ : ∃ q, Hid (q = ch n k) := ⟨_, (rfl : _ = _)⟩
    have hp : Hid (pas n k = q) := by rw [hq.out]; exact pas_ch n (by omega) k (by omega) hk
    go_enter Try.func10, Try.ntmps10
    go_wp2_with fail
    refine (Count_ok n k _ hn hk).mono ?_
    rw [← hq.out]
    rintro e w1 ⟨rfl, rfl⟩
    go_wp2_with fail
    refine (CombCount_ok n k _ hn hk).mono ?_
    rw [hp.out]
    rintro e w1 ⟨rfl, hn1⟩
    go_wp2
    go_ret
    exact ⟨by simp, hn1⟩
  · go_enter Try.func10, Try.ntmps10
    go_wp2_with fail
    refine (Count_bad _ _ _ h).mono ?_
    rintro e w1 ⟨rfl, rfl⟩
    go_wp2_with fail
    refine (CombCount_bad _ _ _ h).mono ?_
    rintro e w1 ⟨rfl, rfl⟩
    go_wp2
    go_ret
    exact ⟨by simp, New.refl _⟩
set_option maxRecDepth 100000 in
theorem walk {H : Type} (enc : TypeId × Value → H) (W : World) {base : Nat} {v0 : Value} {d0 : DataW H} {p0 : List MemPlace} (ok0 : Value.okWide Try.prog W .any base 3 v0) (h0 : DataW.Trod enc Try.prog W 0 (fun _ => true) true 3 v0 d0 p0) {v1 : Value} {d1 : DataW H} {p1 : List MemPlace} (ok1 : Value.okWide Try.prog W .any base 3 v1) (h1 : DataW.Trod enc Try.prog W 0 (fun _ => true) true 3 v1 d1 p1)
    (hsz : (DataW.weightsEach Try.prog (Try.f10.params.toList ++ Rows.combCountsSpec.plain.varTypes Try.prog) ([d0, d1] ++ [])).all (· ≤ reachBytes) = true) :
    Calls Try.prog 10 #[v0, v1] W fun e W' => e = .returned (.bool true) ∧ Below W.heap.size W W' := by
  obtain ⟨a0, rfl, rfl, rfl, w0⟩ := open_int Try.underlying3 ok0 h0
  obtain ⟨a1, rfl, rfl, rfl, w1⟩ := open_int Try.underlying3 ok1 h1
  exact core _ _ W
end Go.Proofs.Ytpknpmmcploacaa.combCounts
