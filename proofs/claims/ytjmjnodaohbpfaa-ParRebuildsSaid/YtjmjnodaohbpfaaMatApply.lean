/-
  Contracts: a matrix is applied to a list.
-/
import Derived.Test.YtjmjnodaohbpfaaMatDot
import Derived.Deep.OwnRows
import Derived.Deep.AppendLies
import Derived.OwnWalk
namespace Go.Proofs.Ytjmjnodaohbpfaa.mat
open Go.ChangeShapes Go.WideShapes Go.ChangeAt Go.RowKit Go.Proofs.Ytjmjnodaohbpfaa.kit Go.Proofs.Ytjmjnodaohbpfaa.gf Go.Deep
set_option linter.unusedVariables false

theorem infoInt : (Try.prog.info? 3).map (fun i => (i.zero, i.size, i.bytes)) = some (some (.int .i64 0), 1, 8) := by kernel_rfl
def rowL (f : Nat → Nat) (k : Nat) : List Value := (List.range k).map fun j => .int .i64 (f j : Nat)
theorem rowL_succ (f : Nat → Nat) (k : Nat) : rowL f (k + 1) = rowL f k ++ [.int .i64 (f k : Nat)] := by unfold rowL; rw [List.range_succ]; simp
theorem rowL_len (f : Nat → Nat) (k : Nat) : (rowL f k).length = k := by simp [rowL]
/-- an owned row of numbers, read -/
theorem own_rdI {w : World} {base : Nat} {e : TypeId} {size : Nat} {v : Value} {n : Nat} {f : Nat → Nat} (h : w.ownsRow base e size v n (rowL f n)) :
    ∃ A c, v = .slice A n c ∧ n ≤ c ∧ RdI .i64 w A n (fun i => (f i : Nat)) := by
  obtain ⟨A, c, rfl, h1, h2, h3, h4⟩ := own_open h
  refine ⟨A, c, rfl, h1, by omega, fun h0 => ?_⟩
  obtain ⟨g, rfl, _, hg⟩ := h3 h0
  refine ⟨g, 0, rfl, hg, fun i hi => ?_⟩
  have := h4 g rfl i (.int .i64 (f i : Nat)) (by simp [rowL, hi])
  simpa using this
theorem nil_rdI (w : World) (Z : Nat → Int) : RdI .i64 w none 0 Z := ⟨Nat.zero_le _, fun h => absurd h (Nat.lt_irrefl 0)⟩
theorem sameInts_eq (A B : Option Addr) (n c d : Nat) (Y Z : Nat → Int) (w : World) (hY : RdI .i64 w A n Y) (hZ : RdI .i64 w B n Z) (he : ∀ i, i < n → Y i = Z i) :
    Calls Try.prog 21 #[.slice A n c, .slice B n d] w fun e w' => e = .returned (.bool true) ∧ New w w' := by
  have hm := hY.1
  unfold maxLen at hm
  have he1 := Lib.hid he
  clear he
  go_enter Try.func21, Try.ntmps21
  go_wp2
  go_loopw [5] (fun k wr => ∃ i : Nat, k = .int .i64 i ∧ i ≤ n ∧ New w wr) (fun k _ => n - (intOf k).toNat)
  case atStart => exact ⟨0, rfl, by omega, New.refl w⟩
  case round =>
    obtain ⟨i, rfl, hi, hnw⟩ := hrel
    by_cases hlt : i < n
    · obtain ⟨b, off, rfl, hb, hcs⟩ := hY.2 (by omega)
      obtain ⟨b', off', rfl, hb', hcs'⟩ := hZ.2 (by omega)
      have c0 := (hnw.cell hb).trans (hcs i hlt)
      have c1 := (hnw.cell hb').trans (hcs' i hlt)
      have he := he1.out i hlt
      clear hcs hcs'
      go_wp2
      go_quiet (fail)
      go_wp2
      go_roundw
      case rel => exact ⟨i + 1, by go_num, by omega, hnw.drewN _⟩
      case measure => simp [intOf]; omega
    · have hin : i = n := by omega
      subst hin
      go_wp2
      go_ret
      exact ⟨rfl, hnw⟩
def elN (M : Nat → Nat → Int) (i k : Nat) : Nat := (M i k).toNat
def numN (Y : Nat → Int) (k : Nat) : Nat := (Y k).toNat
def apCode (n : Nat) (L : Nat → Nat) (M : Nat → Nat → Int) (nv : Nat) (Y : Nat → Int) : Int := if mayM n L M = true ∧ allE nv Y = true then (if L 0 = nv then 0 else 1) else 4
def apLen (n : Nat) (L : Nat → Nat) (M : Nat → Nat → Int) (nv : Nat) (Y : Nat → Int) : Nat := if apCode n L M nv Y = 0 then n else 0
def apVal (M : Nat → Nat → Int) (nv : Nat) (Y : Nat → Int) (i : Nat) : Nat := dotN (elN M i) (numN Y) nv
theorem apVal_lt (M : Nat → Nat → Int) (nv : Nat) (Y : Nat → Int) (i : Nat) (h : ∀ k, k < nv → elP (M i k)) : apVal M nv Y i < 256 :=
  dotN_lt _ _ _ fun k hk => by have := h k hk; unfold elP at this; unfold elN; omega

end Go.Proofs.Ytjmjnodaohbpfaa.mat
