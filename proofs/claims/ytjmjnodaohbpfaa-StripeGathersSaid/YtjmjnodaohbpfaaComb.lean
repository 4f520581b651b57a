/-
  Contracts of package comb's counts and of the reference's. 
-/
import Derived.Test.YtjmjnodaohbpfaaProg
import Derived.Test.YtjmjnodaohbpfaaQuietTail
import Derived.Test.YtjmjnodaohbpfaaRows2
import Derived.Handy
import Derived.Deep.OwnRows
import Derived.Deep.AppendLies
import Derived.Deep.Onto
import Derived.Deep.RegionHeld3
import Derived.OwnWalk
namespace Go.Proofs.Ytjmjnodaohbpfaa.comb
open Go.ChangeShapes Go.WideShapes Go.ChangeAt Go.RowKit Go.Proofs.Ytjmjnodaohbpfaa.kit Go.Deep
set_option linter.unusedVariables false

/-- the program's way to count -/
def ch (n : Nat) : Nat → Nat
  | 0 => 1
  | i + 1 => ch n i * (n - i) / (i + 1)
theorem ch_all : ∀ n, n < 13 → ∀ i, i < 13 → ch n i ≤ 924 ∧ (i ≤ n ∨ ch n i = 0) := by decide
theorem ch_le {n i : Nat} (hn : n ≤ 12) (hi : i ≤ 12) : ch n i ≤ 924 := (ch_all n (by omega) i (by omega)).1
theorem ch_int {n i : Nat} (hn : n ≤ 12) (hi : i ≤ 12) : (ch n i : Int) * ((n : Int) - i) = ((ch n i * (n - i) : Nat) : Int) := by
  rcases (ch_all n (by omega) i (by omega)).2 with h | h
  · rw [Int.natCast_mul, Int.natCast_sub h]
  · rw [h]; simp
theorem ch_mul {n i : Nat} (hn : n ≤ 12) (hi : i ≤ 12) : ch n i * (n - i) ≤ 924 * 12 := Nat.mul_le_mul (ch_le hn hi) (by omega)

theorem divv {p i : Nat} (hp : p ≤ 924 * 12) : Value.int .i64 (wrap64 ((p : Int) / ((i : Int) + 1))) = .int .i64 ((p / (i + 1) : Nat) : Int) := by
  have h1 : p / (i + 1) ≤ p := Nat.div_le_self _ _
  have h2 : (p : Int) / ((i : Int) + 1) = ((p / (i + 1) : Nat) : Int) := by push_cast; rfl
  rw [h2]
  generalize p / (i + 1) = q at h1
  clear h2
  refine intv ?_
  unfold wrap64
  omega
def combP (n k : Int) : Prop := 0 ≤ n ∧ n ≤ 12 ∧ 0 ≤ k ∧ k ≤ n
instance (n k : Int) : Decidable (combP n k) := by unfold combP; infer_instance
/-- Pascal's triangle -/
def pas : Nat → Nat → Nat
  | 0, 0 => 1
  | 0, _ + 1 => 0
  | _ + 1, 0 => 1
  | n + 1, j + 1 => pas n j + pas n (j + 1)
theorem pas_all : ∀ n, n < 14 → ∀ i, i < 14 → pas n i ≤ 4096 ∧ pas n n = 1 ∧ pas n 0 = 1 := by decide
theorem pas_ch : ∀ n, n < 13 → ∀ k, k < 13 → k ≤ n → pas n k = ch n k := by decide
theorem infoInt : (Try.prog.info? 3).map (fun i => (i.zero, i.size, i.bytes)) = some (some (.int .i64 0), 1, 8) := by kernel_rfl
def rowL (f : Nat → Nat) (k : Nat) : List Value := (List.range k).map fun j => .int .i64 (f j : Nat)
theorem rowL_succ (f : Nat → Nat) (k : Nat) : rowL f (k + 1) = rowL f k ++ [.int .i64 (f k : Nat)] := by unfold rowL; rw [List.range_succ]; simp
theorem rowL_len (f : Nat → Nat) (k : Nat) : (rowL f k).length = k := by simp [rowL]
theorem rowL_at (f : Nat → Nat) {k j : Nat} (h : j < k) : (rowL f k)[j]? = some (.int .i64 (f j : Nat)) := by simp [rowL, h]
end Go.Proofs.Ytjmjnodaohbpfaa.comb
