/-
  Contracts: may a matrix be.
-/
import Derived.Test.YtjmjnodaohbpfaaProg
import Derived.Test.YtjmjnodaohbpfaaRows2
namespace Go.Proofs.Ytjmjnodaohbpfaa.mat
open Go.ChangeShapes Go.WideShapes Go.ChangeAt Go.RowKit Go.Proofs.Ytjmjnodaohbpfaa.kit
set_option linter.unusedVariables false

def elP (a : Int) : Prop := 0 ≤ a ∧ a < 256
instance (a : Int) : Decidable (elP a) := by unfold elP; infer_instance
def allE (n : Nat) (Z : Nat → Int) : Bool := (List.range n).all fun j => decide (elP (Z j))
theorem allE_true {n : Nat} {Z : Nat → Int} (h : ∀ j, j < n → elP (Z j)) : allE n Z = true := by simpa [allE] using h
theorem allE_bad {n j : Nat} {Z : Nat → Int} (hj : j < n) (h : ¬ elP (Z j)) : allE n Z = false := by
  cases hb : allE n Z with
  | false => rfl
  | true => simp [allE] at hb; exact absurd (hb j hj) h
theorem allE_out {n : Nat} {Z : Nat → Int} (h : allE n Z = true) : ∀ j, j < n → elP (Z j) := by simpa [allE] using h

theorem element_any (a : Int) (w : World) : Calls Try.prog 85 #[.int .i64 a] w fun e w' => e = .returned (.bool (decide (elP a))) ∧ w = w' := by
  go_enter Try.func85, Try.ntmps85
  go_wp2
  all_goals go_ret
  all_goals refine ⟨retb ?_, rfl⟩
  all_goals first
  | (refine (decide_eq_true ?_).symm; unfold elP; omega)
  | (refine (decide_eq_false ?_).symm; unfold elP; omega)
  | (refine decide_eq_decide.2 ?_; unfold elP; omega)
theorem all1_any (a : Int) (w : World) : Calls Try.prog 84 #[.int .i64 a] w fun e w' => e = .returned (.bool (! decide (elP a))) ∧ w = w' := by
  go_enter Try.func84, Try.ntmps84
  go_wp2_with fail
  refine (element_any _ _).mono ?_
  rintro e w1 ⟨rfl, rfl⟩
  go_wp2
  go_ret
  simp
theorem IndexFunc_all (A : Option Addr) (n c : Nat) (Z : Nat → Int) (w : World) (h : RdI .i64 w A n Z) :
    Calls Try.prog 87 #[.slice A n c, .func (.func 84) #[] #[]] w fun e w' => ∃ r : Int, e = .returned (.int .i64 r) ∧ decide (r ≥ 0) = (! allE n Z) ∧ w = w' := by
  obtain ⟨hm, hr⟩ := h
  unfold maxLen at hm
  go_enter Try.func87, Try.ntmps87
  go_wp2
  go_loopw [8] (fun k wr => ∃ i : Nat, k = .int .i64 i ∧ i ≤ n ∧ w = wr ∧ Hid (∀ j, j < i → elP (Z j))) (fun k _ => n - (intOf k).toNat)
  case atStart => exact ⟨0, rfl, by omega, rfl, fun j hj => absurd hj (Nat.not_lt_zero j)⟩
  case round =>
    obtain ⟨i, rfl, hi, rfl, hup⟩ := hrel
    by_cases hlt : i < n
    · obtain ⟨b, off, rfl, hb, hcs⟩ := hr (by omega)
      have c0 := hcs i hlt
      clear hcs hr
      go_wp2_with fail
      refine (all1_any _ _).mono ?_
      rintro e w1 ⟨rfl, rfl⟩
      by_cases hp : elP (Z i)
      · have hd : decide (elP (Z i)) = true := decide_eq_true hp
        have hs : Hid (∀ j, j < i + 1 → elP (Z j)) := fun j hj => by
          by_cases hji : j = i
          · subst hji; exact hp
          · exact hup.out j (by omega)
        clear hp
        go_wp2
        go_roundw
        case rel => exact ⟨i + 1, by go_num, by omega, trivial, hs.out⟩
        case measure => simp [intOf]; omega
      · have hd : decide (elP (Z i)) = false := decide_eq_false hp
        have hp := Lib.hid hp
        go_wp2
        go_ret
        refine ⟨_, rfl, ?_, ?_⟩
        · rw [allE_bad hlt hp.out]; simp
        · simp
    · have hin : i = n := by omega
      subst hin
      go_wp2
      go_ret
      refine ⟨_, rfl, ?_, ?_⟩
      · rw [allE_true hup.out]; rfl
      · simp
theorem ContainsFunc_all (A : Option Addr) (n c : Nat) (Z : Nat → Int) (w : World) (h : RdI .i64 w A n Z) :
    Calls Try.prog 83 #[.slice A n c, .func (.func 84) #[] #[]] w fun e w' => e = .returned (.bool (! allE n Z)) ∧ w = w' := by
  go_enter Try.func83, Try.ntmps83
  go_wp2_with fail
  refine (IndexFunc_all _ _ _ _ _ h).mono ?_
  rintro e w1 ⟨r, rfl, hr, rfl⟩
  have hr := Lib.hid hr
  go_wp2
  all_goals go_ret
  all_goals refine ⟨retb ?_, rfl⟩
  all_goals rw [← hr.out]
theorem all_any (A : Option Addr) (n c : Nat) (Z : Nat → Int) (w : World) (h : RdI .i64 w A n Z) :
    Calls Try.prog 78 #[.slice A n c] w fun e w' => e = .returned (.bool (allE n Z)) ∧ w = w' := by
  go_enter Try.func78, Try.ntmps78
  go_wp2_with fail
  refine (ContainsFunc_all _ _ _ _ _ h).mono ?_
  rintro e w1 ⟨rfl, rfl⟩
  go_wp2
  go_ret
  exact ⟨by simp, rfl⟩

/-- a row of a matrix that may be -/
def rowP (L : Nat → Nat) (M : Nat → Nat → Int) (i : Nat) : Prop := L i = L 0 ∧ 1 ≤ L i ∧ L i ≤ 8 ∧ allE (L i) (M i) = true
instance (L : Nat → Nat) (M : Nat → Nat → Int) (i : Nat) : Decidable (rowP L M i) := by unfold rowP; infer_instance
def mayM (n : Nat) (L : Nat → Nat) (M : Nat → Nat → Int) : Bool := decide (1 ≤ n ∧ n ≤ 8) && (List.range n).all fun i => decide (rowP L M i)
theorem mayM_true {n : Nat} {L : Nat → Nat} {M : Nat → Nat → Int} (h1 : 1 ≤ n) (h2 : n ≤ 8) (h : ∀ j, j < n → rowP L M j) : mayM n L M = true := by
  simp [mayM, h1, h2]; exact h
theorem mayM_size {n : Nat} {L : Nat → Nat} {M : Nat → Nat → Int} (h : ¬ (1 ≤ n ∧ n ≤ 8)) : mayM n L M = false := by
  unfold mayM; rw [decide_eq_false h]; rfl
theorem mayM_bad {n j : Nat} {L : Nat → Nat} {M : Nat → Nat → Int} (hj : j < n) (h : ¬ rowP L M j) : mayM n L M = false := by
  cases hb : mayM n L M with
  | false => rfl
  | true => simp [mayM] at hb; exact absurd (hb.2 j hj) h
theorem mayM_out {n : Nat} {L : Nat → Nat} {M : Nat → Nat → Int} (h : mayM n L M = true) : 1 ≤ n ∧ n ≤ 8 ∧ ∀ j, j < n → rowP L M j := by
  simp [mayM] at h; exact ⟨h.1.1, h.1.2, h.2⟩

theorem May_any (A : Option Addr) (n c : Nat) (R : Nat → Option Addr) (L C : Nat → Nat) (M : Nat → Nat → Int) (w : World) (h : RdM .i64 w A n R L C M) :
    Calls Try.prog 72 #[.slice A n c] w fun e w' => e = .returned (.bool (mayM n L M)) ∧ w = w' := by
  obtain ⟨hm, hr, hrows⟩ := h
  unfold maxLen at hm
  by_cases hsize : ¬ (1 ≤ n ∧ n ≤ 8)
  · go_enter Try.func72, Try.ntmps72
    go_wp2
    all_goals go_ret
    all_goals exact ⟨retb (mayM_size hsize).symm, rfl⟩
  obtain ⟨b, off, rfl, hb, hcs0⟩ := hr (by omega)
  have hrows0 := Lib.hid hrows
  have hcs := Lib.hid hcs0
  clear hrows hcs0 hr
  have hrows := hrows0
  clear hrows0
  have z0 := hcs.out 0 (by omega)
  simp at z0
  go_enter Try.func72, Try.ntmps72
  go_wp2
  go_loopw [15] (fun k wr => ∃ i : Nat, k = .int .i64 i ∧ i ≤ n ∧ w = wr ∧ Hid (∀ j, j < i → rowP L M j)) (fun k _ => n - (intOf k).toNat)
  case atStart => exact ⟨0, rfl, by omega, rfl, fun j hj => absurd hj (Nat.not_lt_zero j)⟩
  case round =>
    obtain ⟨i, rfl, hi, rfl, hup⟩ := hrel
    by_cases hlt : i < n
    · have c0 := hcs.out i hlt
      have hrow := Lib.hid (hrows.out i hlt)
      by_cases hp : L i = L 0 ∧ 1 ≤ L i ∧ L i ≤ 8
      · obtain ⟨hp1, hp2, hp3⟩ := hp
        go_wp2_with fail
        have hrow1 : RdI .i64 w (R i) (L 0) (M i) := by have := hrow.out.1; rw [hp1] at this; exact this
        refine (all_any _ _ _ _ _ hrow1).mono ?_
        rintro e w1 ⟨rfl, rfl⟩
        cases ha : allE (L 0) (M i) with
        | true =>
          have hs : Hid (∀ j, j < i + 1 → rowP L M j) := fun j hj => by
            by_cases hji : j = i
            · subst hji; exact ⟨hp1, hp2, hp3, by rw [hp1]; exact ha⟩
            · exact hup.out j (by omega)
          go_wp2
          go_roundw
          case rel => exact ⟨i + 1, by go_num, by omega, trivial, hs.out⟩
          case measure => simp [intOf]; omega
        | false =>
          have hs : Hid (¬ rowP L M i) := fun h => by have h2 := h.2.2.2; rw [hp1, ha] at h2; cases h2
          go_wp2
          go_ret
          exact ⟨retb (mayM_bad hlt hs.out).symm, rfl⟩
      · have hs : Hid (¬ rowP L M i) := fun h => hp ⟨h.1, h.2.1, h.2.2.1⟩
        go_wp2
        all_goals go_ret
        all_goals exact ⟨retb (mayM_bad hlt hs.out).symm, rfl⟩
    · have hin : i = n := by omega
      subst hin
      go_wp2
      go_ret
      exact ⟨retb (mayM_true (by omega) (by omega) hup.out).symm, rfl⟩
end Go.Proofs.Ytjmjnodaohbpfaa.mat
