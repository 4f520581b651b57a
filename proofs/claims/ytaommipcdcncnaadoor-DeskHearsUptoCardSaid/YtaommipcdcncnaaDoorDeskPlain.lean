/-
  Plain laws of lines: digits, hexadecimal digits, words with blanks between them.
-/
import Derived.Lib.ItoaNum
import Derived.Lib.Join
import Derived.Test.YtaommipcdcncnaaDoorKit
namespace Go.Proofs.YtaommipcdcncnaaDoor.desk
open Go.Proofs.YtaommipcdcncnaaDoor.kit
set_option linter.unusedVariables false
abbrev Tx := List UInt8
/-- a hexadecimal digit -/
def hexD (x : Nat) : UInt8 := if x < 10 then UInt8.ofNat (48 + x) else UInt8.ofNat (87 + x)
/-- the digits of the first n bytes -/
def hexN (f : Nat → Nat) : Nat → Tx
  | 0 => []
  | n + 1 => hexN f n ++ [hexD (f n / 16), hexD (f n % 16)]
def hexT (f : Nat → Nat) (n : Nat) : Tx := if n = 0 then [45] else hexN f n
theorem hexN_len (f : Nat → Nat) : ∀ n, (hexN f n).length = 2 * n
  | 0 => rfl
  | n + 1 => by
    show (hexN f n ++ _).length = _
    rw [List.length_append, hexN_len f n]
    simp
    omega
theorem hexT_ne {f : Nat → Nat} {n : Nat} (h : 0 < n) : hexT f n = hexN f n := if_neg (by omega)
/-- the words behind a blank each -/
abbrev tailT (l : List Tx) : Tx := Lib.joinTail [32] l
theorem tailT_app (a b : List Tx) : tailT (a ++ b) = tailT a ++ tailT b := by simp [Lib.joinTail]
theorem tailT_one (a : Tx) : tailT [a] = 32 :: a := by simp [Lib.joinTail]
/-- the head of an answer's line -/
def headT (code : Int) : List Tx := if code = 0 then [[111, 107]] else [[110, 111], Lib.itoa code]
/-- the words of an answer's line -/
def wordsT (code size : Int) (done : Bool) (f : Nat → Nat) (n : Nat) (names : List Tx) : List Tx :=
  headT code ++ [Lib.itoa size, hexT f n] ++ (if done = true then [[100, 111, 110, 101]] else []) ++ names
/-- the line of an answer, as the reference builds it -/
def lineT (code size : Int) (done : Bool) (f : Nat → Nat) (n : Nat) (names : List Tx) : Tx :=
  (if code = 0 then [111, 107] else [110, 111, 32] ++ Lib.itoa code) ++ [32] ++ (Lib.itoa size ++ [32] ++ hexT f n) ++ (if done = true then [32, 100, 111, 110, 101] else []) ++ tailT names
theorem words_line (code size : Int) (done : Bool) (f : Nat → Nat) (n : Nat) (names : List Tx) : Lib.join (wordsT code size done f n names) [32] = lineT code size done f n names := by
  unfold wordsT lineT headT
  by_cases hc : code = 0
  · rw [if_pos hc, if_pos hc]
    simp only [List.cons_append, List.nil_append, List.append_assoc]
    rw [Lib.join_cons]
    cases done <;> simp [Lib.joinTail]
  · rw [if_neg hc, if_neg hc]
    simp only [List.cons_append, List.nil_append, List.append_assoc]
    rw [Lib.join_cons]
    cases done <;> simp [Lib.joinTail]
/-- the least number -/
theorem itoa_least : Lib.itoa (-9223372036854775808) = [45, 57, 50, 50, 51, 51, 55, 50, 48, 51, 54, 56, 53, 52, 55, 55, 53, 56, 48, 56] := by
  unfold Lib.itoa
  rw [if_pos (by decide)]
  have e : (-9223372036854775808 : Int).natAbs = 9223372036854775808 := by decide
  rw [e]
  simp [Lib.decDigits]
theorem itoa_neg {n : Int} (h : n < 0) : Lib.itoa n = 45 :: Lib.itoa (-n) := by
  unfold Lib.itoa
  rw [if_pos h, if_neg (by omega)]
  congr 2
  omega
theorem itoa_small {n : Int} (h : 0 ≤ n) (h2 : n < 10) : Lib.itoa n = [UInt8.ofNat (48 + n.toNat)] := by
  unfold Lib.itoa
  rw [if_neg (by omega), Lib.decDigits, dif_pos (by omega)]
theorem itoa_big {n : Int} (h2 : ¬ n < 10) : Lib.itoa n = Lib.itoa (n / 10) ++ [UInt8.ofNat (48 + (n % 10).toNat)] := by
  have h : 10 ≤ n := by omega
  have h1 : 0 ≤ n / 10 := Int.ediv_nonneg (by omega) (by decide)
  unfold Lib.itoa
  rw [if_neg (by omega), if_neg (by omega), Lib.decDigits, dif_neg (by omega)]
  congr 2
  · congr 1
    omega
  · congr 1
    omega
end Go.Proofs.YtaommipcdcncnaaDoor.desk
