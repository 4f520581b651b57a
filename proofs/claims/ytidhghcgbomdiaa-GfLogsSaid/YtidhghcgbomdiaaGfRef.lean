/-
  Contracts of the reference's GfAdd, GfMul, GfDiv, GfPow, GfLog: the same values as package gf's.
-/
import Derived.Test.YtidhghcgbomdiaaGf
namespace Go.Proofs.Ytidhghcgbomdiaa.gf
open Go.ChangeShapes Go.WideShapes Go.ChangeAt Go.RowKit Go.Proofs.Ytidhghcgbomdiaa.kit
attribute [local irreducible] mul expT logT divN pw

theorem GfAdd_any (a b : Int) (w : World) :
    Calls Try.prog 16 #[.int .i64 a, .int .i64 b] w fun e w' => e = .returned (.tuple #[.int .i64 (addV a b), .int .i64 (mulE a b)]) ∧ w = w' := by
  by_cases ha : isB a
  · have hda : decide (isB a) = true := decide_eq_true ha
    by_cases hb : isB b
    · have hdb : decide (isB b) = true := decide_eq_true hb
      have H := Lib.hid (And.intro ha hb)
      obtain ⟨n, rfl, hn⟩ := isB_nat ha
      obtain ⟨m, rfl, hm⟩ := isB_nat hb
      clear ha hb
      have hor : bits BinOp.or IntKind.i64 ↑n ↑m = ((n ||| m : Nat) : Int) := i64_or_nat n m (by omega) (by omega)
      have hand : bits BinOp.and IntKind.i64 ↑n ↑m = ((n &&& m : Nat) : Int) := i64_and_nat n m (by omega) (by omega)
      have h1 : n ||| m < 256 := Nat.or_lt_two_pow (n := 8) hn hm
      have h2 : n &&& m ≤ n ||| m := Nat.le_trans Nat.and_le_left (Nat.left_le_or)
      have hx : Hid (((n ||| m : Nat) : Int) - ((n &&& m : Nat) : Int) = ((n ^^^ m : Nat) : Int)) := by
        have := or_sub_and n m hn hm
        show ((n ||| m : Nat) : Int) - ((n &&& m : Nat) : Int) = ((n ^^^ m : Nat) : Int)
        rw [← this]
        omega
      go_enter Try.func16, Try.ntmps16
      go_wp2_with (first | (go_at_call 40; refine (Element_any _ _).mono ?_; rintro e w' ⟨rfl, rfl⟩))
      go_ret2
      exact ⟨ret2 (hx.out.trans (if_pos H.out).symm) (if_pos H.out).symm, rfl⟩
    · have hdb : decide (isB b) = false := decide_eq_false hb
      have H : Hid (¬ (isB a ∧ isB b)) := fun h => hb h.2
      clear ha hb
      go_enter Try.func16, Try.ntmps16
      go_wp2_with (first | (go_at_call 40; refine (Element_any _ _).mono ?_; rintro e w' ⟨rfl, rfl⟩))
      go_ret2
      exact ⟨ret2 (if_neg H.out).symm (if_neg H.out).symm, rfl⟩
  · have hda : decide (isB a) = false := decide_eq_false ha
    have H : Hid (¬ (isB a ∧ isB b)) := fun h => ha h.1
    clear ha
    go_enter Try.func16, Try.ntmps16
    go_wp2_with (first | (go_at_call 40; refine (Element_any _ _).mono ?_; rintro e w' ⟨rfl, rfl⟩))
    go_ret2
    exact ⟨ret2 (if_neg H.out).symm (if_neg H.out).symm, rfl⟩
theorem GfMul_any (a b : Int) (w : World) :
    Calls Try.prog 18 #[.int .i64 a, .int .i64 b] w fun e w' => e = .returned (.tuple #[.int .i64 (mulV a b), .int .i64 (mulE a b)]) ∧ w = w' := by
  by_cases ha : isB a
  · have hda : decide (isB a) = true := decide_eq_true ha
    by_cases hb : isB b
    · have hdb : decide (isB b) = true := decide_eq_true hb
      have H := Lib.hid (And.intro ha hb)
      obtain ⟨n, rfl, hn⟩ := isB_nat ha
      obtain ⟨m, rfl, hm⟩ := isB_nat hb
      clear ha hb
      go_enter Try.func18, Try.ntmps18
      go_wp2_with (first | (go_at_call 40; refine (Element_any _ _).mono ?_; rintro e w' ⟨rfl, rfl⟩) | (go_at_call 42; refine (mulOf_any n m hn hm _).mono ?_; rintro e w' ⟨rfl, rfl⟩))
      go_ret2
      exact ⟨ret2 (if_pos H.out).symm (if_pos H.out).symm, rfl⟩
    · have hdb : decide (isB b) = false := decide_eq_false hb
      have H : Hid (¬ (isB a ∧ isB b)) := fun h => hb h.2
      clear ha hb
      go_enter Try.func18, Try.ntmps18
      go_wp2_with (first | (go_at_call 40; refine (Element_any _ _).mono ?_; rintro e w' ⟨rfl, rfl⟩))
      go_ret2
      exact ⟨ret2 (if_neg H.out).symm (if_neg H.out).symm, rfl⟩
  · have hda : decide (isB a) = false := decide_eq_false ha
    have H : Hid (¬ (isB a ∧ isB b)) := fun h => ha h.1
    clear ha
    go_enter Try.func18, Try.ntmps18
    go_wp2_with (first | (go_at_call 40; refine (Element_any _ _).mono ?_; rintro e w' ⟨rfl, rfl⟩))
    go_ret2
    exact ⟨ret2 (if_neg H.out).symm (if_neg H.out).symm, rfl⟩
theorem GfDiv_any (a b : Int) (w : World) :
    Calls Try.prog 20 #[.int .i64 a, .int .i64 b] w fun e w' => e = .returned (.tuple #[.int .i64 (divV a b), .int .i64 (divE a b)]) ∧ w = w' := by
  by_cases ha : isB a
  · have hda : decide (isB a) = true := decide_eq_true ha
    by_cases hb : isB b
    · have hdb : decide (isB b) = true := decide_eq_true hb
      have H := Lib.hid (And.intro ha hb)
      by_cases h0 : b = 0
      · subst h0
        have V : Hid (divV a 0 = 0 ∧ divE a 0 = 10) := ⟨by unfold divV; rw [if_pos ⟨ha, hb⟩]; rfl, by unfold divE; rw [if_pos ⟨ha, hb⟩]; rfl⟩
        clear ha hb
        go_enter Try.func20, Try.ntmps20
        go_wp2_with (first | (go_at_call 40; refine (Element_any _ _).mono ?_; rintro e w' ⟨rfl, rfl⟩))
        go_ret2
        exact ⟨ret2 V.out.1.symm V.out.2.symm, rfl⟩
      · obtain ⟨n, rfl, hn⟩ := isB_nat ha
        obtain ⟨m, rfl, hm⟩ := isB_nat hb
        have h0 : m ≠ 0 := by omega
        have V : Hid (divV n m = (divN n m : Nat) ∧ divE n m = 0) := by
          have e0 : ((m : Int)) ≠ 0 := by omega
          exact ⟨by unfold divV; rw [if_pos ⟨ha, hb⟩, if_neg e0]; rfl, by unfold divE; rw [if_pos ⟨ha, hb⟩, if_neg e0]⟩
        have hb0 : ((m : Int) == 0) = false := by simpa using h0
        clear ha hb
        go_enter Try.func20, Try.ntmps20
        go_wp2_with (first | (go_at_call 40; refine (Element_any _ _).mono ?_; rintro e w' ⟨rfl, rfl⟩) | (go_at_call 44; refine (divOf_any n m hn hm h0 _).mono ?_; rintro e w' ⟨rfl, rfl⟩))
        go_ret2
        exact ⟨ret2 V.out.1.symm V.out.2.symm, rfl⟩
    · have hdb : decide (isB b) = false := decide_eq_false hb
      have H : Hid (¬ (isB a ∧ isB b)) := fun h => hb h.2
      clear ha hb
      go_enter Try.func20, Try.ntmps20
      go_wp2_with (first | (go_at_call 40; refine (Element_any _ _).mono ?_; rintro e w' ⟨rfl, rfl⟩))
      go_ret2
      exact ⟨ret2 (if_neg H.out).symm (if_neg H.out).symm, rfl⟩
  · have hda : decide (isB a) = false := decide_eq_false ha
    have H : Hid (¬ (isB a ∧ isB b)) := fun h => ha h.1
    clear ha
    go_enter Try.func20, Try.ntmps20
    go_wp2_with (first | (go_at_call 40; refine (Element_any _ _).mono ?_; rintro e w' ⟨rfl, rfl⟩))
    go_ret2
    exact ⟨ret2 (if_neg H.out).symm (if_neg H.out).symm, rfl⟩
theorem GfLog_any (a : Int) (w : World) :
    Calls Try.prog 26 #[.int .i64 a] w fun e w' => e = .returned (.tuple #[.int .i64 (logV a), .int .i64 (logE a)]) ∧ w = w' := by
  by_cases ha : isB a
  · have hda : decide (isB a) = true := decide_eq_true ha
    by_cases h0 : a = 0
    · subst h0
      have V : Hid (logV 0 = 0 ∧ logE 0 = 10) := ⟨by unfold logV; rw [if_pos ha]; rfl, by unfold logE; rw [if_pos ha]; rfl⟩
      clear ha
      go_enter Try.func26, Try.ntmps26
      go_wp2_with (first | (go_at_call 40; refine (Element_any _ _).mono ?_; rintro e w' ⟨rfl, rfl⟩))
      go_ret2
      exact ⟨ret2 V.out.1.symm V.out.2.symm, rfl⟩
    · obtain ⟨n, rfl, hn⟩ := isB_nat ha
      have h0 : n ≠ 0 := by omega
      have V : Hid (logV n = (logT n : Nat) ∧ logE n = 0) := by
        have e0 : ((n : Int)) ≠ 0 := by omega
        exact ⟨by unfold logV; rw [if_pos ha, if_neg e0]; rfl, by unfold logE; rw [if_pos ha, if_neg e0]⟩
      have hb0 : ((n : Int) == 0) = false := by simpa using h0
      clear ha
      go_enter Try.func26, Try.ntmps26
      go_wp2_with (first | (go_at_call 40; refine (Element_any _ _).mono ?_; rintro e w' ⟨rfl, rfl⟩) | (go_at_call 46; refine (logOf_any n hn h0 _).mono ?_; rintro e w' ⟨rfl, rfl⟩))
      go_ret2
      exact ⟨ret2 V.out.1.symm V.out.2.symm, rfl⟩
  · have hda : decide (isB a) = false := decide_eq_false ha
    have H := Lib.hid ha
    clear ha
    go_enter Try.func26, Try.ntmps26
    go_wp2_with (first | (go_at_call 40; refine (Element_any _ _).mono ?_; rintro e w' ⟨rfl, rfl⟩))
    go_ret2
    exact ⟨ret2 (if_neg H.out).symm (if_neg H.out).symm, rfl⟩
theorem pow_ref (a n : Nat) (ha : a < 256) (a0 : a ≠ 0) : expT ((logT a * (n % 255)) % 255) = pw a n := by
  rw [pw_log a ha a0, Nat.mul_mod, Nat.mod_mod, ← Nat.mul_mod]
theorem GfPow_any (a b : Int) (w : World) (y2 : b ≤ 9223372036854775807) :
    Calls Try.prog 23 #[.int .i64 a, .int .i64 b] w fun e w' => e = .returned (.tuple #[.int .i64 (powV a b), .int .i64 (powE a b)]) ∧ w = w' := by
  by_cases ha : isB a
  · have hda : decide (isB a) = true := decide_eq_true ha
    by_cases hb : 0 ≤ b
    · obtain ⟨n, rfl, hn⟩ := isB_nat ha
      obtain ⟨m, rfl⟩ := Int.eq_ofNat_of_zero_le hb
      have V : Hid (powV n m = (pw n m : Nat) ∧ powE n m = 0) := ⟨if_pos ⟨ha, hb⟩, if_pos ⟨ha, hb⟩⟩
      clear ha hb
      by_cases hm0 : m = 0
      · have hb0 : ((m : Int) == 0) = true := by simpa using hm0
        have hp : Hid (pw n m = 1) := by rw [hm0]; unfold pw; rfl
        clear hm0
        go_enter Try.func23, Try.ntmps23
        go_wp2_with (first | (go_at_call 40; refine (Element_any _ _).mono ?_; rintro e w' ⟨rfl, rfl⟩))
        go_ret2
        exact ⟨ret2 (by rw [V.out.1, hp.out]; rfl) V.out.2.symm, rfl⟩
      · have hb0 : ((m : Int) == 0) = false := by simpa using hm0
        by_cases h0 : n = 0
        · have hn0 : ((n : Int) == 0) = true := by simpa using h0
          have hp : Hid (pw n m = 0) := by rw [h0]; exact pw_zero m hm0
          clear hm0 h0
          go_enter Try.func23, Try.ntmps23
          go_wp2_with (first | (go_at_call 40; refine (Element_any _ _).mono ?_; rintro e w' ⟨rfl, rfl⟩))
          go_ret2
          exact ⟨ret2 (by rw [V.out.1, hp.out]; rfl) V.out.2.symm, rfl⟩
        · have hn0 : ((n : Int) == 0) = false := by simpa using h0
          have hp := Lib.hid (pow_ref n m hn h0)
          have hl := (log_facts n hn h0).1
          have hmm : m % 255 < 255 := Nat.mod_lt _ (by omega)
          have hbd : logT n * (m % 255) ≤ 255 * 255 := Nat.mul_le_mul (by omega) (by omega)
          have hbd : logT n * (m % 255) ≤ 65025 := hbd
          have hlog := fun w => logOf_any n hn h0 w
          obtain ⟨L, hL⟩ : ∃ L, L = logT n := ⟨_, rfl⟩
          obtain ⟨P, hP⟩ : ∃ P, P = logT n * (m % 255) := ⟨_, rfl⟩
          have hc : (L : Int) * ((m : Int) % 255) = (P : Nat) := by rw [hL, hP, Int.natCast_mul]; rfl
          rw [← hL] at hl hbd hlog
          have hP2 := Lib.hid hP
          have hP3 : P ≤ 65025 := by rw [hP, ← hL]; exact hbd
          have hlog := Lib.hid hlog
          clear hm0 hP hbd hL
          go_enter Try.func23, Try.ntmps23
          go_wp2_with (first | (go_at_call 40; refine (Element_any _ _).mono ?_; rintro e w' ⟨rfl, rfl⟩) | (go_at_call 46; refine (hlog.out _).mono ?_; rintro e w' ⟨rfl, rfl⟩) | (go_at_call 45; refine (expOf_any P (by omega) _).mono ?_; rintro e w' ⟨rfl, rfl⟩))
          go_ret2
          exact ⟨ret2 (by rw [V.out.1, ← hp.out, hP2.out]) V.out.2.symm, rfl⟩
    · have H : Hid (¬ powP a b) := fun h => hb h.2
      clear ha
      go_enter Try.func23, Try.ntmps23
      go_wp2_with (first | (go_at_call 40; refine (Element_any _ _).mono ?_; rintro e w' ⟨rfl, rfl⟩))
      go_ret2
      exact ⟨ret2 (if_neg H.out).symm (if_neg H.out).symm, rfl⟩
  · have hda : decide (isB a) = false := decide_eq_false ha
    have H : Hid (¬ powP a b) := fun h => ha h.1
    clear ha
    go_enter Try.func23, Try.ntmps23
    go_wp2_with (first | (go_at_call 40; refine (Element_any _ _).mono ?_; rintro e w' ⟨rfl, rfl⟩))
    go_ret2
    exact ⟨ret2 (if_neg H.out).symm (if_neg H.out).symm, rfl⟩
end Go.Proofs.Ytidhghcgbomdiaa.gf
