/-
  Contracts of geom.Cost, of the reference's GeomCost, and of what they call.
-/
import Derived.Test.YtpknpmmcploacaaProg
import Derived.Test.YtpknpmmcploacaaGeomPlain
import Derived.Test.YtpknpmmcploacaaKit
namespace Go.Proofs.Ytpknpmmcploacaa.geom
open Go.ChangeShapes Go.WideShapes Go.ChangeAt Go.RowKit Go.Proofs.Ytpknpmmcploacaa.kit

theorem counted_any (c : Int) (w : World) :
    Calls Try.prog 41 #[.int .i64 c] w fun e w' => e = .returned (.bool (decide (cntP c))) ∧ w = w' := by
  go_enter Try.func41, Try.ntmps41
  go_wp2
  all_goals go_ret
  all_goals refine ⟨retb ?_, rfl⟩
  all_goals first
  | (refine (decide_eq_true ?_).symm; unfold cntP; omega)
  | (refine (decide_eq_false ?_).symm; unfold cntP; omega)
  | (refine decide_eq_decide.2 ?_; unfold cntP; omega)
theorem addressed_any (a : Int) (w : World) :
    Calls Try.prog 39 #[.int .i64 a] w fun e w' => e = .returned (.bool (decide (adrP a))) ∧ w = w' := by
  go_enter Try.func39, Try.ntmps39
  go_wp2
  all_goals go_ret
  all_goals refine ⟨retb ?_, rfl⟩
  all_goals first
  | (refine (decide_eq_true ?_).symm; unfold adrP; omega)
  | (refine (decide_eq_false ?_).symm; unfold adrP; omega)
  | (refine decide_eq_decide.2 ?_; unfold adrP; omega)
theorem may_any (d p : Int) (w : World) :
    Calls Try.prog 40 #[.agg #[.int .i64 d, .int .i64 p]] w fun e w' => e = .returned (.bool (decide (mayP d p))) ∧ New w w' := by
  go_enter Try.func40, Try.ntmps40
  go_wp2
  all_goals go_ret
  all_goals refine ⟨retb ?_, (New.refl _).alloc _⟩
  all_goals first
  | (refine (decide_eq_true ?_).symm; unfold mayP; omega)
  | (refine (decide_eq_false ?_).symm; unfold mayP; omega)
  | (refine decide_eq_decide.2 ?_; unfold mayP; omega)
theorem up_any (n b : Int) (h0 : 0 ≤ n) (h1 : n ≤ 1000) (h2 : 1 ≤ b) (h3 : b ≤ 100) (w : World) :
    Calls Try.prog 42 #[.int .i64 n, .int .i64 b] w fun e w' => e = .returned (.int .i64 (upF n b)) ∧ w = w' := by
  have hb := upF_bd n b h2
  unfold upF at hb
  go_enter Try.func42, Try.ntmps42
  go_wp2
  go_ret
  exact ⟨rfl, rfl⟩
theorem badShape_any (d p : Int) (w : World) :
    Calls Try.prog 43 #[.int .i64 d, .int .i64 p] w fun e w' => e = .returned (.bool (!decide (mayP d p))) ∧ w = w' := by
  by_cases h : mayP d p
  · rw [decide_eq_true h]
    obtain ⟨m1, m2, m3, m4, m5⟩ := h
    go_enter Try.func43, Try.ntmps43
    go_wp2
    go_ret
    refine ⟨retb ?_, rfl⟩
    simp; omega
  · rw [decide_eq_false h]
    unfold mayP at h
    go_enter Try.func43, Try.ntmps43
    go_wp2
    all_goals go_ret
    all_goals refine ⟨retb ?_, rfl⟩
    all_goals first | rfl | (simp; omega)
theorem cost_any (d p c : Int) (w : World) :
    Calls Try.prog 17 #[.int .i64 d, .int .i64 p, .int .i64 c] w fun e w' => e = .returned (.tuple #[.int .i64 (costF d p c), .int .i64 (costE d p c)]) ∧ New w w' := by
  by_cases hm : mayP d p
  · by_cases hc : cntP c
    · have hm' : decide (mayP d p) = true := decide_eq_true hm
      have hc' : decide (cntP c) = true := decide_eq_true hc
      have H := Lib.hid (And.intro hm hc)
      have h1 := upF_bd c (d - p) (by unfold mayP at hm; omega)
      have h2 : 0 ≤ upF c (d - p) / (d - p) ∧ upF c (d - p) / (d - p) ≤ upF c (d - p) := ⟨Int.ediv_nonneg (by unfold mayP cntP at *; omega) (by unfold mayP at hm; omega), Int.ediv_le_self _ (by unfold mayP cntP at *; omega)⟩
      obtain ⟨m1, m2, m3, m4, m5⟩ := hm
      obtain ⟨c1, c2⟩ := hc
      have h4 : 0 ≤ p * (upF c (d - p) / (d - p)) ∧ p * (upF c (d - p) / (d - p)) ≤ 3 * (upF c (d - p) / (d - p)) := ⟨Int.mul_nonneg (by omega) h2.1, Int.mul_le_mul_of_nonneg_right (by omega) h2.1⟩
      have h3 : d - p ≠ 0 := by omega
      go_enter Try.func17, Try.ntmps17
      go_wp2_with (first | (go_at_call 40; refine (may_any _ _ _).mono ?_; rintro e w1 ⟨rfl, hb1⟩) | (go_at_call 41; refine (counted_any _ _).mono ?_; rintro e w' ⟨rfl, rfl⟩) | (go_at_call 42; refine (up_any _ _ (by omega) (by omega) (by omega) (by omega) _).mono ?_; rintro e w' ⟨rfl, rfl⟩))
      go_ret2
      exact ⟨ret2 (if_pos H.out).symm (if_pos H.out).symm, hb1.of_alloc⟩
    · have hm' : decide (mayP d p) = true := decide_eq_true hm
      have hc' : decide (cntP c) = false := decide_eq_false hc
      have H : Hid (¬ (mayP d p ∧ cntP c)) := fun h => hc h.2
      clear hm hc
      go_enter Try.func17, Try.ntmps17
      go_wp2_with (first | (go_at_call 40; refine (may_any _ _ _).mono ?_; rintro e w1 ⟨rfl, hb1⟩) | (go_at_call 41; refine (counted_any _ _).mono ?_; rintro e w' ⟨rfl, rfl⟩))
      go_ret2
      exact ⟨ret2 (if_neg H.out).symm (if_neg H.out).symm, hb1.of_alloc⟩
  · have hm' : decide (mayP d p) = false := decide_eq_false hm
    have H : Hid (¬ (mayP d p ∧ cntP c)) := fun h => hm h.1
    clear hm
    go_enter Try.func17, Try.ntmps17
    go_wp2_with (first | (go_at_call 40; refine (may_any _ _ _).mono ?_; rintro e w1 ⟨rfl, hb1⟩))
    go_ret2
    exact ⟨ret2 (if_neg H.out).symm (if_neg H.out).symm, hb1.of_alloc⟩
theorem rcost_any (d p c : Int) (w : World) :
    Calls Try.prog 18 #[.int .i64 d, .int .i64 p, .int .i64 c] w fun e w' => e = .returned (.tuple #[.int .i64 (costF d p c), .int .i64 (costE d p c)]) ∧ w = w' := by
  by_cases hm : mayP d p
  · have hm' : decide (mayP d p) = true := decide_eq_true hm
    by_cases hc : cntP c
    · have H := Lib.hid (And.intro hm hc)
      have hag := Lib.hid (agree d p c hm hc)
      obtain ⟨m1, m2, m3, m4, m5⟩ := hm
      obtain ⟨c1, c2⟩ := hc
      go_enter Try.func18, Try.ntmps18
      go_wp2_with (first | (go_at_call 43; refine (badShape_any _ _ _).mono ?_; rintro e w' ⟨rfl, rfl⟩))
      go_loop [8, 9] (fun n l => ∃ (f : Nat) (left m : Int), n = .int .i64 m ∧ l = .int .i64 left ∧ left ≤ f ∧ f ≤ 40 ∧ left ≤ 32 ∧ -10 ≤ left ∧ 0 ≤ m ∧ m ≤ 10 * (40 - f) ∧ Hid (rowsF (d - p) p f left m = rowsF (d - p) p 40 c 0)) (fun _ l => (intOf l).toNat)
      case atStart => exact ⟨40, c, 0, rfl, rfl, by omega, by omega, by omega, by omega, by omega, by omega, rfl⟩
      case round =>
        obtain ⟨f, left, m, rfl, rfl, r1, r2, r3, r4, r5, r6, r7⟩ := hrel
        by_cases hl : 0 < left
        · obtain ⟨f, rfl⟩ : ∃ g, f = g + 1 := ⟨f - 1, by omega⟩
          have hs := Lib.hid (if_pos hl : (if 0 < left then rowsF (d - p) p f (left - (d - p)) (m + (p + min left (d - p))) else m) = rowsF (d - p) p f (left - (d - p)) (m + (p + min left (d - p))))
          go_wp2
          go_round
          case rel =>
            have hmin : (if d - p < left then d - p else left) = min left (d - p) := by omega
            rw [hmin]
            exact ⟨f, _, _, rfl, rfl, by omega, by omega, by omega, by omega, by omega, by omega, by rw [← r7.out]; exact hs.out.symm⟩
          case measure => simp [intOf]; omega
        · have hM : m = rowsF (d - p) p 40 c 0 := by rw [← r7.out, rowsF_end _ _ _ _ _ (by omega)]
          have hps := pad_start p m m3 m4
          have hpad : Hid (padF p 4 m = costV d p c) := by rw [hM]; exact hag.out
          clear hM r7 hag
          have hp0 : p + 1 ≠ 0 := by omega
          go_wp2
          go_loopg [8] 4 (fun k n wr => ∃ v : Int, n = .int .i64 v ∧ 0 ≤ v ∧ v ≤ 500 - k ∧ (v % (p + 1) = 0 ∨ p + 1 - v % (p + 1) ≤ k) ∧ Hid (padF p k v = costV d p c) ∧ wr = w)
          case atStart => exact ⟨m, rfl, by omega, by omega, hps, hpad, rfl⟩
          case round =>
            obtain ⟨v, rfl, v1, v2, v3, v4, rfl⟩ := hrel
            by_cases hv : v % (p + 1) = 0
            · have hv' : (v % (p + 1) == 0) = true := by simpa using hv
              have hfin : Hid (v = costV d p c) := by rw [← v4.out, padF_end _ _ _ hv]; rfl
              clear hv hps
              go_wp2
              go_ret2
              exact ⟨ret2 (hfin.out.trans (if_pos H.out).symm) (if_pos H.out).symm, rfl⟩
            · have hv' : (v % (p + 1) == 0) = false := by simpa using hv
              have hnext : ∃ g : Nat, Hid (gk = g + 1 ∧ ((v + 1) % (p + 1) = 0 ∨ p + 1 - (v + 1) % (p + 1) ≤ g) ∧ v ≤ 500 - ((g : Nat) : Int) - 1 ∧ padF p g (v + 1) = costV d p c) := by
                obtain ⟨g, hg, hg2⟩ := pad_step p v gk m3 m4 hv (by omega)
                refine ⟨g, hg, hg2, by omega, ?_⟩
                have h4 := v4.out
                rw [hg, padF, if_neg hv] at h4
                exact h4
              obtain ⟨g, HG⟩ := hnext
              have hv5 : v ≤ 500 := by omega
              clear hv hps v3 v2 v4
              go_wp2
              obtain ⟨g1, g2, g3, g4⟩ := HG.out
              go_roundg g
              case measure => omega
              case rel => exact ⟨v + 1, rfl, by omega, by omega, g2, g4, rfl⟩
    · have H : Hid (¬ (mayP d p ∧ cntP c)) := fun h => hc h.2
      unfold cntP at hc
      clear hm
      go_enter Try.func18, Try.ntmps18
      go_wp2_with (first | (go_at_call 43; refine (badShape_any _ _ _).mono ?_; rintro e w' ⟨rfl, rfl⟩))
      all_goals go_ret2
      all_goals exact ⟨ret2 (if_neg H.out).symm (if_neg H.out).symm, rfl⟩
  · have hm' : decide (mayP d p) = false := decide_eq_false hm
    have H : Hid (¬ (mayP d p ∧ cntP c)) := fun h => hm h.1
    clear hm
    go_enter Try.func18, Try.ntmps18
    go_wp2_with (first | (go_at_call 43; refine (badShape_any _ _ _).mono ?_; rintro e w' ⟨rfl, rfl⟩))
    go_ret2
    exact ⟨ret2 (if_neg H.out).symm (if_neg H.out).symm, rfl⟩
end Go.Proofs.Ytpknpmmcploacaa.geom
