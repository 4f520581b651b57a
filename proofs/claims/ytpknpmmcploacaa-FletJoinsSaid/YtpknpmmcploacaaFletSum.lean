/-
  Sums of sums, in plain numbers.
-/
import Derived.Test.YtpknpmmcploacaaFlet
namespace Go.Proofs.Ytpknpmmcploacaa.flet
open Go.RowKit

/-- alike but for multiples of 2^64 -/
def E64 (x y : Int) : Prop := (x - y) % 18446744073709551616 = 0
theorem E64.rfl' (x : Int) : E64 x x := by unfold E64; simp
theorem E64.wrap (x : Int) : E64 (wrap64 x) x := by unfold E64 wrap64; omega
theorem E64.wrap_eq {x y : Int} (h : E64 x y) : wrap64 x = wrap64 y := by unfold E64 at h; unfold wrap64; omega
theorem E64.add {x y z t : Int} (h : E64 x y) (k : E64 z t) : E64 (x + z) (y + t) := by unfold E64 at *; omega
theorem E64.trans {x y z : Int} (h : E64 x y) (k : E64 y z) : E64 x z := by unfold E64 at *; omega
theorem E64.symm {x y : Int} (h : E64 x y) : E64 y x := by unfold E64 at *; omega
theorem E64.wadd {x y z t : Int} (h : E64 x y) (k : E64 z t) : E64 (wrap64 (x + z)) (y + t) := (E64.wrap _).trans (h.add k)

/-- 1 + 2 + .. + n, and the sum of these -/
def p2 : Nat → Int
  | 0 => 0
  | n + 1 => p2 n + (n + 1)
def p3 : Nat → Int
  | 0 => 0
  | n + 1 => p3 n + p2 (n + 1)
theorem p2_two : ∀ n : Nat, 2 * p2 n = n * (n + 1)
  | 0 => by simp [p2]
  | n + 1 => by
    have h := p2_two n
    have e : ((n + 1 : Nat) : Int) * (((n + 1 : Nat) : Int) + 1) = (n : Int) * (n + 1) + 2 * (n + 1) := by
      push_cast
      rw [← Int.add_mul]
      rw [Int.mul_comm]
      congr 1
    rw [e, ← h]
    simp only [p2]
    omega
theorem p3_three : ∀ n : Nat, 3 * p3 n = p2 n * (n + 2)
  | 0 => by simp [p2, p3]
  | n + 1 => by
    have h := p3_three n
    have h2 := p2_two (n + 1)
    have e0 : p2 n = p2 (n + 1) - (n + 1) := by simp only [p2]; omega
    rw [e0, Int.sub_mul] at h
    have e1 : p2 (n + 1) * (((n + 1 : Nat) : Int) + 2) = p2 (n + 1) * ((n : Int) + 2) + p2 (n + 1) := by
      rw [show (((n + 1 : Nat) : Int) + 2) = ((n : Int) + 2) + 1 by push_cast; omega, Int.mul_add, Int.mul_one]
    have e2 : ((n + 1 : Nat) : Int) * (((n + 1 : Nat) : Int) + 1) = ((n : Int) + 1) * ((n : Int) + 2) := by
      rw [show ((n + 1 : Nat) : Int) = (n : Int) + 1 by push_cast; rfl, show (n : Int) + 1 + 1 = (n : Int) + 2 by omega]
    rw [e2] at h2
    rw [e1]
    simp only [p3]
    omega
theorem p2_nonneg : ∀ n : Nat, 0 ≤ p2 n
  | 0 => by simp [p2]
  | n + 1 => by have := p2_nonneg n; simp only [p2]; omega
theorem p3_nonneg : ∀ n : Nat, 0 ≤ p3 n
  | 0 => by simp [p3]
  | n + 1 => by have := p3_nonneg n; have := p2_nonneg (n + 1); simp only [p3]; omega
theorem p2_le (n : Nat) (hn : n ≤ 1048576) : p2 n ≤ 549756338176 := by
  have h := p2_two n
  have h1 : (n : Int) * (n + 1) ≤ 1048576 * 1048577 := Int.mul_le_mul (by omega) (by omega) (by omega) (by omega)
  omega
theorem p3_le (n : Nat) (hn : n ≤ 1048576) : p2 n * (n + 2) ≤ 576464050838306816 := by
  have h := p2_le n hn
  have h1 : p2 n * ((n : Int) + 2) ≤ 549756338176 * 1048578 := Int.mul_le_mul h (by omega) (by omega) (by omega)
  omega

/-- the document's way -/
def joinR (a b c d : Int) : Nat → Int × Int × Int
  | 0 => (b, c, d)
  | i + 1 =>
    let s := joinR a b c d i
    let b' := wrap64 (s.1 + a)
    let c' := wrap64 (s.2.1 + b')
    (b', c', wrap64 (s.2.2 + c'))
theorem joinR_like (a b c d : Int) : ∀ i : Nat, E64 (joinR a b c d i).1 (b + i * a) ∧ E64 (joinR a b c d i).2.1 (c + i * b + p2 i * a) ∧ E64 (joinR a b c d i).2.2 (d + i * c + p2 i * b + p3 i * a)
  | 0 => by simp [joinR, p2, p3, E64]
  | i + 1 => by
    obtain ⟨h1, h2, h3⟩ := joinR_like a b c d i
    have g1 : E64 (joinR a b c d (i + 1)).1 (b + ((i + 1 : Nat) : Int) * a) := by
      have := E64.wadd h1 (E64.rfl' a)
      have e : b + (i : Int) * a + a = b + ((i + 1 : Nat) : Int) * a := by rw [Int.natCast_succ, Int.add_mul, Int.one_mul]; omega
      rw [e] at this; exact this
    have g2 : E64 (joinR a b c d (i + 1)).2.1 (c + ((i + 1 : Nat) : Int) * b + p2 (i + 1) * a) := by
      have := E64.wadd h2 g1
      have e : c + (i : Int) * b + p2 i * a + (b + ((i + 1 : Nat) : Int) * a) = c + ((i + 1 : Nat) : Int) * b + p2 (i + 1) * a := by
        simp only [p2]; rw [Int.natCast_succ, Int.add_mul (i : Int) 1 b, Int.one_mul, Int.add_mul (p2 i)]; omega
      rw [e] at this; exact this
    have g3 : E64 (joinR a b c d (i + 1)).2.2 (d + ((i + 1 : Nat) : Int) * c + p2 (i + 1) * b + p3 (i + 1) * a) := by
      have := E64.wadd h3 g2
      have e : d + (i : Int) * c + p2 i * b + p3 i * a + (c + ((i + 1 : Nat) : Int) * b + p2 (i + 1) * a) = d + ((i + 1 : Nat) : Int) * c + p2 (i + 1) * b + p3 (i + 1) * a := by
        simp only [p3]; rw [Int.natCast_succ, Int.add_mul (i : Int) 1 c, Int.one_mul, Int.add_mul (p3 i)]
        have : p2 (i + 1) * b = p2 i * b + ((i : Int) + 1) * b := by simp only [p2]; rw [Int.add_mul]
        omega
      rw [e] at this; exact this
    exact ⟨g1, g2, g3⟩
end Go.Proofs.Ytpknpmmcploacaa.flet
