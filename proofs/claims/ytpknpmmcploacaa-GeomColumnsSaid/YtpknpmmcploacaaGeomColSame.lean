/-
  Lists of columns that are alike; the ways out with a code.
-/
import Derived.Test.YtpknpmmcploacaaGeomColRef
namespace Go.Proofs.Ytpknpmmcploacaa.geom
open Go.ChangeShapes Go.WideShapes Go.ChangeAt Go.RowKit Go.Proofs.Ytpknpmmcploacaa.kit Go.Deep
set_option linter.unusedVariables false

theorem sameColumns_eq (dr pa ad n : Nat) (hn : n ≤ 8) (C : Nat → Nat) (v v' : Value) (b b' : Nat) (w : World) (h : w.ownsRow b 67 4 v n (colL dr pa ad C n)) (h' : w.ownsRow b' 67 4 v' n (colL dr pa ad C n)) :
    Calls Try.prog 21 #[v, v'] w fun e w' => e = .returned (.bool true) ∧ New w w' := by
  obtain ⟨A, c, rfl, hc1, hc2, hA, hcell⟩ := own_open h
  obtain ⟨A', c', rfl, hc1', hc2', hA', hcell'⟩ := own_open h'
  have hcl := Lib.hid hcell
  have hcl' := Lib.hid hcell'
  have hA1 := Lib.hid hA
  have hA1' := Lib.hid hA'
  have hat : Hid (∀ j f, j < n → f < 4 → (colL dr pa ad C n)[j * 4 + f]? = (colC dr pa ad C j)[f]?) := fun j f hj hf => colL_at dr pa ad C n j f hj hf
  clear hcell hcell' hA hA' h h'
  go_enter Try.func21, Try.ntmps21
  go_wp2
  go_loopw [5] (fun k wr => ∃ i : Nat, k = .int .i64 i ∧ i ≤ n ∧ New w wr) (fun k _ => n - (intOf k).toNat)
  case atStart => exact ⟨0, rfl, by omega, New.refl w⟩
  case round =>
    obtain ⟨i, rfl, hi, hnw⟩ := hrel
    by_cases hlt : i < n
    · obtain ⟨g, rfl, _, hg⟩ := hA1.out (by omega)
      obtain ⟨g', rfl, _, hg'⟩ := hA1'.out (by omega)
      obtain ⟨x, hx⟩ : ∃ x : Int, Hid (x = ((ad + i) % dr : Nat)) := ⟨_, (rfl : _ = _)⟩
      obtain ⟨y, hy⟩ : ∃ y : Int, Hid (y = ((ad + i) / dr : Nat)) := ⟨_, (rfl : _ = _)⟩
      obtain ⟨z, hz⟩ : ∃ z : Int, Hid (z = (C i : Nat)) := ⟨_, (rfl : _ = _)⟩
      obtain ⟨t, ht⟩ : ∃ t : Bool, Hid (t = decide (i < pa)) := ⟨_, (rfl : _ = _)⟩
      have c0 := (hnw.cell hg).trans (hcl.out g rfl (i * 4 + 0) (.int .i64 x) (by rw [hat.out i 0 hlt (by omega), hx.out]; rfl))
      have c1 := (hnw.cell hg).trans (hcl.out g rfl (i * 4 + 1) (.int .i64 y) (by rw [hat.out i 1 hlt (by omega), hy.out]; rfl))
      have c2 := (hnw.cell hg).trans (hcl.out g rfl (i * 4 + 2) (.int .i64 z) (by rw [hat.out i 2 hlt (by omega), hz.out]; rfl))
      have c3 := (hnw.cell hg).trans (hcl.out g rfl (i * 4 + 3) (.bool t) (by rw [hat.out i 3 hlt (by omega), ht.out]; rfl))
      have d0 := (hnw.cell hg').trans (hcl'.out g' rfl (i * 4 + 0) (.int .i64 x) (by rw [hat.out i 0 hlt (by omega), hx.out]; rfl))
      have d1 := (hnw.cell hg').trans (hcl'.out g' rfl (i * 4 + 1) (.int .i64 y) (by rw [hat.out i 1 hlt (by omega), hy.out]; rfl))
      have d2 := (hnw.cell hg').trans (hcl'.out g' rfl (i * 4 + 2) (.int .i64 z) (by rw [hat.out i 2 hlt (by omega), hz.out]; rfl))
      have d3 := (hnw.cell hg').trans (hcl'.out g' rfl (i * 4 + 3) (.bool t) (by rw [hat.out i 3 hlt (by omega), ht.out]; rfl))
      simp only [Nat.add_zero] at c0 d0
      have i0 : (0 : Int) ≤ (i : Int) := by omega
      have i1 : (i : Int) < (n : Int) := by omega
      go_wp2
      go_quiet (fail)
      go_wp2
      go_roundw
      case rel => exact ⟨i + 1, by go_num, by omega, hnw.drewN _⟩
      case measure => simp [intOf]; omega
    · have hin : i = n := by omega
      subst hin
      go_wp2
      go_ret
      exact ⟨rfl, hnw⟩
theorem sameColumns_nil (w : World) :
    Calls Try.prog 21 #[.slice none 0 0, .slice none 0 0] w fun e w' => e = .returned (.bool true) ∧ New w w' :=
  sameColumns_eq 1 0 0 0 (by omega) (fun _ => 0) _ _ w.heap.size w.heap.size w (World.ownsRow_nil _ _ _ _) (World.ownsRow_nil _ _ _ _)
theorem Columns_bad (d p a c : Int) (w : World) (h : ¬ (mayP d p ∧ cntP c ∧ adrP a)) :
    Calls Try.prog 19 #[.int .i64 d, .int .i64 p, .int .i64 a, .int .i64 c] w fun e w' => e = .returned (.tuple #[.slice none 0 0, .int .i64 2]) ∧ New w w' := by
  by_cases hm : mayP d p
  · have hm' : decide (mayP d p) = true := decide_eq_true hm
    by_cases hc : cntP c
    · have hc' : decide (cntP c) = true := decide_eq_true hc
      have ha' : decide (adrP a) = false := decide_eq_false fun ha => h ⟨hm, hc, ha⟩
      clear hm hc h
      go_enter Try.func19, Try.ntmps19
      go_wp2_with (first | (go_at_call 40; refine (may_any _ _ _).mono ?_; rintro e w1 ⟨rfl, hb1⟩) | (go_at_call 41; refine (counted_any _ _).mono ?_; rintro e w' ⟨rfl, rfl⟩) | (go_at_call 39; refine (addressed_any _ _).mono ?_; rintro e w' ⟨rfl, rfl⟩))
      go_ret2
      exact ⟨rfl, hb1.of_alloc⟩
    · have hc' : decide (cntP c) = false := decide_eq_false hc
      clear hm hc h
      go_enter Try.func19, Try.ntmps19
      go_wp2_with (first | (go_at_call 40; refine (may_any _ _ _).mono ?_; rintro e w1 ⟨rfl, hb1⟩) | (go_at_call 41; refine (counted_any _ _).mono ?_; rintro e w' ⟨rfl, rfl⟩))
      go_ret2
      exact ⟨rfl, hb1.of_alloc⟩
  · have hm' : decide (mayP d p) = false := decide_eq_false hm
    clear hm h
    go_enter Try.func19, Try.ntmps19
    go_wp2_with (first | (go_at_call 40; refine (may_any _ _ _).mono ?_; rintro e w1 ⟨rfl, hb1⟩))
    go_ret2
    exact ⟨rfl, hb1.of_alloc⟩
theorem GeomColumns_bad (d p a c : Int) (w : World) (h : ¬ (mayP d p ∧ cntP c ∧ adrP a)) :
    Calls Try.prog 20 #[.int .i64 d, .int .i64 p, .int .i64 a, .int .i64 c] w fun e w' => e = .returned (.tuple #[.slice none 0 0, .int .i64 2]) ∧ New w w' := by
  by_cases hm : mayP d p
  · have hm' : decide (mayP d p) = true := decide_eq_true hm
    have h' : c < 1 ∨ 32 < c ∨ a < 0 ∨ 65536 < a := by
      have h2 : ¬ (cntP c ∧ adrP a) := fun h2 => h ⟨hm, h2.1, h2.2⟩
      unfold cntP adrP at h2; omega
    clear h
    clear hm
    go_enter Try.func20, Try.ntmps20
    go_wp2_with (first | (go_at_call 43; refine (badShape_any _ _ _).mono ?_; rintro e w' ⟨rfl, rfl⟩))
    all_goals go_ret2
    all_goals exact ⟨rfl, New.refl _⟩
  · have hm' : decide (mayP d p) = false := decide_eq_false hm
    clear hm h
    go_enter Try.func20, Try.ntmps20
    go_wp2_with (first | (go_at_call 43; refine (badShape_any _ _ _).mono ?_; rintro e w' ⟨rfl, rfl⟩))
    go_ret2
    exact ⟨rfl, New.refl _⟩
end Go.Proofs.Ytpknpmmcploacaa.geom
