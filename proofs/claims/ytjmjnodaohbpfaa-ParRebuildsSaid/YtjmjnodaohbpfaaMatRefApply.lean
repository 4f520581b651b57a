/-
  Contract of the reference: a matrix is applied to a list.
-/
import Derived.Test.YtjmjnodaohbpfaaMatApply
import Derived.Test.YtjmjnodaohbpfaaQuietTail
namespace Go.Proofs.Ytjmjnodaohbpfaa.mat
open Go.ChangeShapes Go.WideShapes Go.ChangeAt Go.RowKit Go.Proofs.Ytjmjnodaohbpfaa.kit Go.Proofs.Ytjmjnodaohbpfaa.gf Go.Deep
set_option linter.unusedVariables false

/-- what lies in a row of sums while they are reckoned -/
def stF (a : Nat → Nat) (s i : Nat) : Nat → Value := fun j => .int .i64 ((if j < i then a j else if j = i then s else 0 : Nat) : Int)
theorem stF_at (a : Nat → Nat) (s i : Nat) : stF a s i i = .int .i64 (s : Int) := by simp [stF]
theorem stF_set (a : Nat → Nat) (s s' i : Nat) : (fun j => if j = i then Value.int .i64 (s' : Int) else stF a s i j) = stF a s' i := by
  funext j
  unfold stF
  by_cases h : j = i
  · simp [h]
  · simp [h]
theorem stF_next (a : Nat → Nat) (i : Nat) : stF a (a i) i = stF a 0 (i + 1) := by
  funext j
  unfold stF
  congr 2
  by_cases h1 : j < i
  · simp [h1, Nat.lt_succ_of_lt h1]
  · by_cases h2 : j = i
    · subst h2; simp
    · have h3 : ¬ j < i + 1 := by omega
      simp [h1, h2, h3]
end Go.Proofs.Ytjmjnodaohbpfaa.mat
