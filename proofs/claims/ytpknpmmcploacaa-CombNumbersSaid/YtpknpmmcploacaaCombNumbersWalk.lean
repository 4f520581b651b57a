/-
  The walk of the law CombNumbers.
-/
import Derived.Test.YtpknpmmcploacaaRows
import Derived.Test.YtpknpmmcploacaaCombNumRef
import Derived.Test.YtpknpmmcploacaaCombOpen
import Derived.Test.YtpknpmmcploacaaOpen
namespace Go.Proofs.Ytpknpmmcploacaa.combNumbers
open Go.ChangeShapes Go.WideShapes Go.ChangeAt Go.RowKit Go.Proofs.Ytpknpmmcploacaa.kit Go.Proofs.Ytpknpmmcploacaa.comb
set_option linter.unusedVariables false
theorem core (n : Int) (A : Option Addr) (m c : Nat) (Z : Nat → Int) (w : World) (hZ : RdI .i64 w A m Z) : Calls Try.prog 12 #[.int .i64 n, .slice A m c] w fun e w' => e = .returned (.bool true) ∧ New w w' := by
  by_cases h : 0 ≤ n ∧ n ≤ 12
  · obtain ⟨n, rfl⟩ : ∃ k : Nat, (k : Int) = n := ⟨n.toNat, by omega⟩
    have hn : n ≤ 12 := by omega
    have h1 := Number_ok n A m c Z w hn hZ
    have h2 := CombNumber_ok n A m c Z w hn hZ
    generalize ((outV (numF n 0 (lst Z m 0)) : Nat) : Int) = rv at h1 h2
    generalize outE (numF n 0 (lst Z m 0)) = re at h1 h2
    have g1 := Lib.hid h1
    have g2 := Lib.hid h2
    clear h1 h2 hZ
    go_enter Try.func12, Try.ntmps12
    go_wp2_with fail
    refine g1.out.mono ?_
    rintro e w1 ⟨rfl, rfl⟩
    go_wp2_with fail
    refine g2.out.mono ?_
    rintro e w1 ⟨rfl, hn1⟩
    go_wp2
    go_ret
    exact ⟨by simp, hn1⟩
  · have hb : n < 0 ∨ 12 < n := by omega
    clear hZ
    go_enter Try.func12, Try.ntmps12
    go_wp2_with fail
    refine (Number_bad _ _ _ hb).mono ?_
    rintro e w1 ⟨rfl, rfl⟩
    go_wp2_with fail
    refine (CombNumber_bad _ _ _ hb).mono ?_
    rintro e w1 ⟨rfl, rfl⟩
    go_wp2
    go_ret
    exact ⟨by simp, New.refl _⟩
set_option maxRecDepth 100000 in
theorem walk {H : Type} (enc : TypeId × Value → H) (W : World) {base : Nat} {v0 : Value} {d0 : DataW H} {p0 : List MemPlace} (ok0 : Value.okWide Try.prog W .any base 3 v0) (h0 : DataW.Trod enc Try.prog W 0 (fun _ => true) true 3 v0 d0 p0) {v1 : Value} {d1 : DataW H} {p1 : List MemPlace} (ok1 : Value.okWide Try.prog W .any base 24 v1) (h1 : DataW.Trod enc Try.prog W 0 (fun _ => true) true 24 v1 d1 p1)
    (hsz : (DataW.weightsEach Try.prog (Try.f12.params.toList ++ Rows.combNumbersSpec.plain.varTypes Try.prog) ([d0, d1] ++ [])).all (· ≤ reachBytes) = true) :
    Calls Try.prog 12 #[v0, v1] W fun e W' => e = .returned (.bool true) ∧ Below W.heap.size W W' := by
  obtain ⟨a0, rfl, rfl, rfl, w0⟩ := open_int Try.underlying3 ok0 h0
  obtain ⟨A, m, c, Z, rfl, hZ, _⟩ := open_ints ok1 h1
  exact core _ _ _ _ _ W hZ
end Go.Proofs.Ytpknpmmcploacaa.combNumbers
