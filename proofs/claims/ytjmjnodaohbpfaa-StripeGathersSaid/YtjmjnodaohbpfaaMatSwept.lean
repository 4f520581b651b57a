/-
  Contract of the reference's swept.
-/
import Derived.Test.YtjmjnodaohbpfaaMatBeside
namespace Go.Proofs.Ytjmjnodaohbpfaa.mat
open Go.ChangeShapes Go.WideShapes Go.ChangeAt Go.RowKit Go.Proofs.Ytjmjnodaohbpfaa.kit Go.Proofs.Ytjmjnodaohbpfaa.gf Go.Deep
set_option linter.unusedVariables false

/-- the matrix that is cleared -/
structure SSt (w0 : World) (B H o n m : Nat) (G C : Nat → Nat) (Z : Nat → Nat → Nat) (w : World) : Prop where
  mx : Mx w B H o n m G C Z
  bl : Below B w0 w
  hs : H ≤ w.heap.size
section
variable {w0 w w' : World} {B H o n m : Nat} {G C : Nat → Nat} {Z Y : Nat → Nat → Nat}
theorem SSt.hB (h : SSt w0 B H o n m G C Z w) : B ≤ w.heap.size := by have := h.mx.ob; have := h.hs; omega
theorem SSt.new (h : SSt w0 B H o n m G C Z w) (hn : New w w') : SSt w0 B H o n m G C Z w' := ⟨h.mx.new h.hs hn, Below.next h.bl hn h.hB, Nat.le_trans h.hs hn.size⟩
theorem SSt.congr (h : SSt w0 B H o n m G C Z w) (he : ∀ i k, i < n → k < m → Z i k = Y i k) : SSt w0 B H o n m G C Y w := ⟨h.mx.congr he, h.bl, h.hs⟩
theorem SSt.drew (h : SSt w0 B H o n m G C Z w) : SSt w0 B H o n m G C Z w.drew := h.new (New.refl w).drew
theorem SSt.set (h : SSt w0 B H o n m G C Z w) {i k : Nat} (hi : i < n) (y : Nat) : SSt w0 B H o n m G C (fun i' k' => if i' = i ∧ k' = k then y else Z i' k') (w.setCell ⟨G i, k, none⟩ (.int .i64 y)) :=
  ⟨h.mx.set hi y, h.bl.setCell (h.mx.gb i hi).1 _, by simpa [World.setCell] using h.hs⟩
theorem SSt.swap (h : SSt w0 B H o n m G C Z w) {a b : Nat} (ha : a < n) (hb : b < n) : SSt w0 B H o n m (swpN G a b) (swpN C a b) (swp Z a b) ((w.setCell ⟨o, a, none⟩ (.slice (some ⟨G b, 0, none⟩) m (C b))).setCell ⟨o, b, none⟩ (.slice (some ⟨G a, 0, none⟩) m (C a))) :=
  ⟨h.mx.swap ha hb, (h.bl.setCell h.mx.ob.1 _).setCell h.mx.ob.1 _, by simpa [World.setCell] using h.hs⟩
end
end Go.Proofs.Ytjmjnodaohbpfaa.mat
