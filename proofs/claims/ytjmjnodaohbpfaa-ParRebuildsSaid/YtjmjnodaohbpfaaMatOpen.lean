/-
  Arguments of the types [][]int, []int.
-/
import Derived.Test.YtjmjnodaohbpfaaProg
import Derived.Test.YtjmjnodaohbpfaaRows2
namespace Go.Proofs.Ytjmjnodaohbpfaa.mat
open Go.ChangeShapes Go.WideShapes Go.ChangeAt Go.RowKit Go.Proofs.Ytjmjnodaohbpfaa.kit Go.Joins Go.Deep
set_option maxRecDepth 100000 in
theorem open_mat {H : Type} {enc : TypeId × Value → H} {W : World} {base : Nat} {v : Value} {d : DataW H} {p : List MemPlace} (ok : Value.okWide Try.prog W .any base 53 v)
    (h : DataW.Trod enc Try.prog W 0 (fun _ => true) true 53 v d p) :
    ∃ (A : Option Addr) (n c : Nat) (R : Nat → Option Addr) (L C : Nat → Nat) (M : Nat → Nat → Int), v = .slice A n c ∧ RdM .i64 W A n R L C M ∧ n ≤ c ∧ c ≤ maxLen ∧ ∀ i, i < n → ∀ j, j < L i → -9223372036854775808 ≤ M i j ∧ M i j ≤ 9223372036854775807 := by
  obtain ⟨A, n, c, rfl⟩ := okWide_slice Try.underlying53 ok
  obtain ⟨fuel, hf⟩ := h
  obtain ⟨A, n, c, R, L, C, M, hv, h1, h2, h3, h4⟩ := open_matI Try.underlying53 (by kernel_rfl) Try.underlying29 Try.underlying3 (by kernel_rfl) hf
  exact ⟨A, n, c, R, L, C, M, hv, h1, h2, h3, fun i hi j hj => bounds_i64 (h4 i hi j hj)⟩
set_option maxRecDepth 100000 in
theorem open_ints {H : Type} {enc : TypeId × Value → H} {W : World} {base : Nat} {v : Value} {d : DataW H} {p : List MemPlace} (ok : Value.okWide Try.prog W .any base 29 v)
    (h : DataW.Trod enc Try.prog W 0 (fun _ => true) true 29 v d p) :
    ∃ (A : Option Addr) (n c : Nat) (Z : Nat → Int), v = .slice A n c ∧ RdI .i64 W A n Z ∧ n ≤ c ∧ c ≤ maxLen ∧ ∀ i, i < n → -9223372036854775808 ≤ Z i ∧ Z i ≤ 9223372036854775807 := by
  obtain ⟨A, n, c, rfl⟩ := okWide_slice Try.underlying29 ok
  obtain ⟨fuel, hf⟩ := h
  obtain ⟨A, n, c, Z, hv, h1, h2, h3, h4, _⟩ := open_rowI Try.underlying29 Try.underlying3 (by kernel_rfl) hf
  exact ⟨A, n, c, Z, hv, h1, h2, h3, fun i hi => bounds_i64 (h4 i hi)⟩
end Go.Proofs.Ytjmjnodaohbpfaa.mat
