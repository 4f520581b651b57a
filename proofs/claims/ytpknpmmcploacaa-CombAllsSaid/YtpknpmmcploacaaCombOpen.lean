/-
  A list of numbers among the arguments, opened.
-/
import Derived.Test.YtpknpmmcploacaaProg
import Derived.Test.YtpknpmmcploacaaRows2
namespace Go.Proofs.Ytpknpmmcploacaa.comb
open Go.ChangeShapes Go.WideShapes Go.ChangeAt Go.RowKit Go.Proofs.Ytpknpmmcploacaa.kit Go.Joins Go.Deep
set_option maxRecDepth 100000 in
theorem open_ints {H : Type} {enc : TypeId × Value → H} {W : World} {base : Nat} {v : Value} {d : DataW H} {p : List MemPlace} (ok : Value.okWide Try.prog W .any base 24 v)
    (h : DataW.Trod enc Try.prog W 0 (fun _ => true) true 24 v d p) :
    ∃ (A : Option Addr) (n c : Nat) (Z : Nat → Int), v = .slice A n c ∧ RdI .i64 W A n Z ∧ n ≤ c ∧ c ≤ maxLen ∧ ∀ i, i < n → -9223372036854775808 ≤ Z i ∧ Z i ≤ 9223372036854775807 := by
  obtain ⟨A, n, c, rfl⟩ := okWide_slice Try.underlying24 ok
  obtain ⟨fuel, hf⟩ := h
  obtain ⟨A, n, c, Z, hv, h1, h2, h3, h4, _⟩ := open_rowI Try.underlying24 Try.underlying3 (by kernel_rfl) hf
  exact ⟨A, n, c, Z, hv, h1, h2, h3, fun i hi => bounds_i64 (h4 i hi)⟩
end Go.Proofs.Ytpknpmmcploacaa.comb
