/-
  Lists of columns that are alike; the ways out with a code. 
-/
import Derived.Test.YtjmjnodaohbpfaaGeomColRef
namespace Go.Proofs.Ytjmjnodaohbpfaa.geom
open Go.ChangeShapes Go.WideShapes Go.ChangeAt Go.RowKit Go.Proofs.Ytjmjnodaohbpfaa.kit Go.Deep
set_option linter.unusedVariables false
set_option maxRecDepth 100000

theorem Columns_bad (d p a c : Int) (w : World) (h : ¬ (mayP d p ∧ cntP c ∧ adrP a)) :
    Calls Try.prog 54 #[.int .i64 d, .int .i64 p, .int .i64 a, .int .i64 c] w fun e w' => e = .returned (.tuple #[.slice none 0 0, .int .i64 2]) ∧ New w w' := by
  by_cases hm : mayP d p
  · have hm' : decide (mayP d p) = true := decide_eq_true hm
    by_cases hc : cntP c
    · have hc' : decide (cntP c) = true := decide_eq_true hc
      have ha' : decide (adrP a) = false := decide_eq_false fun ha => h ⟨hm, hc, ha⟩
      clear hm hc h
      go_enter Try.func54, Try.ntmps54
      go_wp2_with (first | (go_at_call 64; refine (may_any _ _ _).mono ?_; rintro e w1 ⟨rfl, hb1⟩) | (go_at_call 65; refine (counted_any _ _).mono ?_; rintro e w' ⟨rfl, rfl⟩) | (go_at_call 66; refine (addressed_any _ _).mono ?_; rintro e w' ⟨rfl, rfl⟩))
      go_ret2
      exact ⟨rfl, hb1.of_alloc⟩
    · have hc' : decide (cntP c) = false := decide_eq_false hc
      clear hm hc h
      go_enter Try.func54, Try.ntmps54
      go_wp2_with (first | (go_at_call 64; refine (may_any _ _ _).mono ?_; rintro e w1 ⟨rfl, hb1⟩) | (go_at_call 65; refine (counted_any _ _).mono ?_; rintro e w' ⟨rfl, rfl⟩))
      go_ret2
      exact ⟨rfl, hb1.of_alloc⟩
  · have hm' : decide (mayP d p) = false := decide_eq_false hm
    clear hm h
    go_enter Try.func54, Try.ntmps54
    go_wp2_with (first | (go_at_call 64; refine (may_any _ _ _).mono ?_; rintro e w1 ⟨rfl, hb1⟩))
    go_ret2
    exact ⟨rfl, hb1.of_alloc⟩
theorem GeomColumns_bad (d p a c : Int) (w : World) (h : ¬ (mayP d p ∧ cntP c ∧ adrP a)) :
    Calls Try.prog 37 #[.int .i64 d, .int .i64 p, .int .i64 a, .int .i64 c] w fun e w' => e = .returned (.tuple #[.slice none 0 0, .int .i64 2]) ∧ New w w' := by
  by_cases hm : mayP d p
  · have hm' : decide (mayP d p) = true := decide_eq_true hm
    have h' : c < 1 ∨ 32 < c ∨ a < 0 ∨ 65536 < a := by
      have h2 : ¬ (cntP c ∧ adrP a) := fun h2 => h ⟨hm, h2.1, h2.2⟩
      unfold cntP adrP at h2; omega
    clear h
    clear hm
    go_enter Try.func37, Try.ntmps37
    go_wp2_with (first | (go_at_call 55; refine (badShape_any _ _ _).mono ?_; rintro e w' ⟨rfl, rfl⟩))
    all_goals go_ret2
    all_goals exact ⟨rfl, New.refl _⟩
  · have hm' : decide (mayP d p) = false := decide_eq_false hm
    clear hm h
    go_enter Try.func37, Try.ntmps37
    go_wp2_with (first | (go_at_call 55; refine (badShape_any _ _ _).mono ?_; rintro e w' ⟨rfl, rfl⟩))
    go_ret2
    exact ⟨rfl, New.refl _⟩
end Go.Proofs.Ytjmjnodaohbpfaa.geom
