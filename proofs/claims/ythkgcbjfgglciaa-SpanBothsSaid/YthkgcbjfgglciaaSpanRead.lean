/-
  Contracts of package span's functions that only read, and of the reference's.
-/
import Derived.Test.YthkgcbjfgglciaaProg
import Derived.Test.YthkgcbjfgglciaaQuiet
namespace Go.Proofs.Ythkgcbjfgglciaa.span
open Go.ChangeShapes Go.WideShapes Go.ChangeAt Go.RowKit Go.Proofs.Ythkgcbjfgglciaa.kit

def oneP (f t : Int) : Prop := 0 ≤ f ∧ f < t ∧ t ≤ 1048576
instance (f t : Int) : Decidable (oneP f t) := by unfold oneP; infer_instance
theorem one_any (f t : Int) (w : World) :
    Calls Try.prog 36 #[.agg #[.int .i64 f, .int .i64 t]] w fun e w' => e = .returned (.bool (decide (oneP f t))) ∧ New w w' := by
  go_enter Try.func36, Try.ntmps36
  go_wp2
  all_goals go_ret
  all_goals refine ⟨retb ?_, (New.refl _).alloc _⟩
  all_goals first
  | (refine (decide_eq_true ?_).symm; unfold oneP; omega)
  | (refine (decide_eq_false ?_).symm; unfold oneP; omega)
  | (refine decide_eq_decide.2 ?_; unfold oneP; omega)
theorem RangeMay_any (f t : Int) (w : World) :
    Calls Try.prog 37 #[.agg #[.int .i64 f, .int .i64 t]] w fun e w' => e = .returned (.bool (decide (oneP f t))) ∧ New w w' := by
  go_enter Try.func37, Try.ntmps37
  go_wp2
  all_goals go_ret
  all_goals refine ⟨retb ?_, (New.refl _).alloc _⟩
  all_goals first
  | (refine (decide_eq_true ?_).symm; unfold oneP; omega)
  | (refine (decide_eq_false ?_).symm; unfold oneP; omega)
  | (refine decide_eq_decide.2 ?_; unfold oneP; omega)

/-- a list of ranges, read in memory: a length, and the numbers -/
def Rd (w : World) (A : Option Addr) (n : Nat) (F T : Nat → Int) : Prop :=
  n ≤ maxLen ∧ (0 < n → ∃ b off, A = some ⟨b, off, none⟩ ∧ b < w.heap.size ∧
    ∀ i, i < n → w.cell? ⟨b, off + i * 2, none⟩ = some (.int .i64 (F i)) ∧ w.cell? ⟨b, off + i * 2 + 1, none⟩ = some (.int .i64 (T i)))
theorem Rd.new {w w' : World} {A : Option Addr} {n : Nat} {F T : Nat → Int} (h : Rd w A n F T) (hn : New w w') : Rd w' A n F T :=
  ⟨h.1, fun h0 => by
    obtain ⟨b, off, hA, hb, hc⟩ := h.2 h0
    exact ⟨b, off, hA, Nat.lt_of_lt_of_le hb hn.size, fun i hi => ⟨(hn.cell hb).trans (hc i hi).1, (hn.cell hb).trans (hc i hi).2⟩⟩⟩
def stepP (F T : Nat → Int) (j : Nat) : Prop := oneP (F j) (T j) ∧ (j = 0 ∨ T (j - 1) < F j)
instance (F T : Nat → Int) (j : Nat) : Decidable (stepP F T j) := by unfold stepP; infer_instance
def mayB (n : Nat) (F T : Nat → Int) : Bool := decide (n ≤ 200) && (List.range n).all fun j => decide (stepP F T j)
theorem mayB_true {n : Nat} {F T : Nat → Int} (h : n ≤ 200) (hs : ∀ j, j < n → stepP F T j) : mayB n F T = true := by
  simp [mayB, h]
  exact hs
theorem mayB_long {n : Nat} {F T : Nat → Int} (h : ¬ n ≤ 200) : mayB n F T = false := by simp [mayB, h]
theorem mayB_bad {n j : Nat} {F T : Nat → Int} (hj : j < n) (hs : ¬ stepP F T j) : mayB n F T = false := by
  cases hb : mayB n F T with
  | false => rfl
  | true =>
    simp [mayB] at hb
    exact absurd (hb.2 j hj) hs
theorem mayB_out {n : Nat} {F T : Nat → Int} (h : mayB n F T = true) : n ≤ 200 ∧ ∀ j, j < n → stepP F T j := by simpa [mayB] using h

theorem May_any (A : Option Addr) (n c : Nat) (F T : Nat → Int) (w : World) (h : Rd w A n F T) :
    Calls Try.prog 13 #[.slice A n c] w fun e w' => e = .returned (.bool (mayB n F T)) ∧ New w w' := by
  obtain ⟨hm, hr⟩ := h
  unfold maxLen at hm
  go_enter Try.func13, Try.ntmps13
  go_wp2
  go_loopw [7] (fun k wr => ∃ i : Nat, k = .int .i64 i ∧ i ≤ n ∧ New w wr ∧ Hid (∀ j, j < i → stepP F T j)) (fun k _ => n - (intOf k).toNat)
  case atStart => exact ⟨0, rfl, by omega, New.refl w, fun j hj => absurd hj (Nat.not_lt_zero j)⟩
  case round =>
    obtain ⟨i, rfl, hi, hnw, hup⟩ := hrel
    by_cases hlt : i < n
    · obtain ⟨b, off, rfl, hb, hcs⟩ := hr (by omega)
      obtain ⟨c0, c1⟩ := hcs i hlt
      have d0 : wr.cell? ⟨b, off + i * 2, none⟩ = some (.int .i64 (F i)) := (hnw.cell hb).trans c0
      have d1 : wr.cell? ⟨b, off + i * 2 + 1, none⟩ = some (.int .i64 (T i)) := (hnw.cell hb).trans c1
      have dp : Hid (0 < i → wr.cell? ⟨b, off + (i - 1) * 2 + 1, none⟩ = some (.int .i64 (T (i - 1)))) := fun h0 => (hnw.cell hb).trans (hcs (i - 1) (by omega)).2
      have hbr : b < wr.heap.size := Nat.lt_of_lt_of_le hb hnw.size
      clear hcs c0 c1 hr
      have e0 := fun (W1 : World) hW1 => NewW.keep (w := W1) (a := ⟨wr.heap.size, 0, none⟩) (v := .int .i64 (F i)) hW1
      have e1 := fun (W1 : World) hW1 => NewW.keep (w := W1) (a := ⟨wr.heap.size, 1, none⟩) (v := .int .i64 (T i)) hW1
      have e2 := fun (W1 : World) hW1 => NewW.keep (w := W1) (a := ⟨b, off + (i - 1) * 2 + 1, none⟩) (v := .int .i64 (T (i - 1))) hW1
      have e0 := Lib.hid e0
      have e1 := Lib.hid e1
      have e2 := Lib.hid e2
      by_cases h1 : oneP (F i) (T i)
      · have hd : decide (oneP (F i) (T i)) = true := decide_eq_true h1
        have h1 := Lib.hid h1
        by_cases h0 : 0 < i
        · by_cases hcmp : T (i - 1) < F i
          · have hs : Hid (∀ j, j < i + 1 → stepP F T j) := fun j hj => by
              by_cases hji : j = i
              · subst hji; exact ⟨h1.out, .inr hcmp⟩
              · exact hup.out j (by omega)
            go_wp2
            obtain ⟨W1, hW1⟩ : ∃ W1, W1 = wr.alloc (.cells #[.int .i64 (F i), .int .i64 (T i)] 30) := ⟨_, rfl⟩
            have f0 := e0.out W1 (by rw [hW1]; simp)
            have f1 := e1.out W1 (by rw [hW1]; simp)
            have f2 := e2.out W1 (by rw [hW1, World.cell?_alloc_lt _ _ _ hbr]; exact dp.out h0)
            have hN : Hid (New w W1) := by rw [hW1]; exact hnw.alloc _
            rw [← hW1]
            clear hW1 d0 d1 dp e0 e1 e2
            (refine wp_region_quiet_new (by kernel_rfl) (by kernel_rfl) ?_; (repeat (first | go_big_quiet_step (first | (go_at_call 36; exact NewW.call _ (one_any _ _ _))) | quiet_step (first | (go_at_call 36; exact NewW.call _ (one_any _ _ _))))); refine wpQuiet_nil ?_; rintro W2 ⟨⟨_, hn_W2⟩, rfl⟩)
            go_wp2
            go_roundw
            case rel => exact ⟨i + 1, by go_num, by omega, hN.out.next hn_W2, hs.out⟩
            case measure => simp [intOf]; omega
          · have hs : Hid (¬ stepP F T i) := fun h => by rcases h.2 with h2 | h2 <;> omega
            go_wp2
            obtain ⟨W1, hW1⟩ : ∃ W1, W1 = wr.alloc (.cells #[.int .i64 (F i), .int .i64 (T i)] 30) := ⟨_, rfl⟩
            have f0 := e0.out W1 (by rw [hW1]; simp)
            have f1 := e1.out W1 (by rw [hW1]; simp)
            have f2 := e2.out W1 (by rw [hW1, World.cell?_alloc_lt _ _ _ hbr]; exact dp.out h0)
            have hN : Hid (New w W1) := by rw [hW1]; exact hnw.alloc _
            rw [← hW1]
            clear hW1 d0 d1 dp e0 e1 e2
            (refine wp_region_quiet_new (by kernel_rfl) (by kernel_rfl) ?_; (repeat (first | go_big_quiet_step (first | (go_at_call 36; exact NewW.call _ (one_any _ _ _))) | quiet_step (first | (go_at_call 36; exact NewW.call _ (one_any _ _ _))))); refine wpQuiet_nil ?_; rintro W2 ⟨⟨_, hn_W2⟩, rfl⟩)
            go_wp2
            go_ret
            exact ⟨retb (mayB_bad hlt hs.out).symm, hN.out.next hn_W2⟩
        · have hs : Hid (∀ j, j < i + 1 → stepP F T j) := fun j hj => by
            have hj0 : j = 0 := by omega
            have hi0 : i = 0 := by omega
            subst hj0
            exact ⟨by rw [← hi0]; exact h1.out, .inl rfl⟩
          go_wp2
          obtain ⟨W1, hW1⟩ : ∃ W1, W1 = wr.alloc (.cells #[.int .i64 (F i), .int .i64 (T i)] 30) := ⟨_, rfl⟩
          have f0 := e0.out W1 (by rw [hW1]; simp)
          have f1 := e1.out W1 (by rw [hW1]; simp)
          have hN : Hid (New w W1) := by rw [hW1]; exact hnw.alloc _
          rw [← hW1]
          clear hW1 d0 d1 dp e0 e1 e2
          (refine wp_region_quiet_new (by kernel_rfl) (by kernel_rfl) ?_; (repeat (first | go_big_quiet_step (first | (go_at_call 36; exact NewW.call _ (one_any _ _ _))) | quiet_step (first | (go_at_call 36; exact NewW.call _ (one_any _ _ _))))); refine wpQuiet_nil ?_; rintro W2 ⟨⟨_, hn_W2⟩, rfl⟩)
          go_wp2
          go_roundw
          case rel => exact ⟨i + 1, by go_num, by omega, hN.out.next hn_W2, hs.out⟩
          case measure => simp [intOf]; omega
      · have hd : decide (oneP (F i) (T i)) = false := decide_eq_false h1
        have hs : Hid (¬ stepP F T i) := fun h => h1 h.1
        clear h1
        go_wp2
        obtain ⟨W1, hW1⟩ : ∃ W1, W1 = wr.alloc (.cells #[.int .i64 (F i), .int .i64 (T i)] 30) := ⟨_, rfl⟩
        have f0 := e0.out W1 (by rw [hW1]; simp)
        have f1 := e1.out W1 (by rw [hW1]; simp)
        have hN : Hid (New w W1) := by rw [hW1]; exact hnw.alloc _
        rw [← hW1]
        clear hW1 d0 d1 dp e0 e1 e2
        (refine wp_region_quiet_new (by kernel_rfl) (by kernel_rfl) ?_; (repeat (first | go_big_quiet_step (first | (go_at_call 36; exact NewW.call _ (one_any _ _ _))) | quiet_step (first | (go_at_call 36; exact NewW.call _ (one_any _ _ _))))); refine wpQuiet_nil ?_; rintro W2 ⟨⟨_, hn_W2⟩, rfl⟩)
        go_wp2
        go_ret
        exact ⟨retb (mayB_bad hlt hs.out).symm, hN.out.next hn_W2⟩
    · have hs : Hid (mayB n F T = decide (n ≤ 200)) := by
        by_cases h2 : n ≤ 200
        · exact (mayB_true h2 (fun j hj => hup.out j (by omega))).trans (decide_eq_true h2).symm
        · exact (mayB_long h2).trans (decide_eq_false h2).symm
      go_wp2
      all_goals go_ret
      all_goals exact ⟨retb (by rw [hs.out]; exact decide_eq_decide.2 (by omega)), hnw⟩
theorem SpanMay_any (A : Option Addr) (n c : Nat) (F T : Nat → Int) (w : World) (h : Rd w A n F T) :
    Calls Try.prog 14 #[.slice A n c] w fun e w' => e = .returned (.bool (mayB n F T)) ∧ New w w' := by
  obtain ⟨hm, hr⟩ := h
  unfold maxLen at hm
  by_cases hn2 : n ≤ 200
  · have hi2 : (n : Int) ≤ 200 := by omega
    go_enter Try.func14, Try.ntmps14
    go_wp2
    go_loopw [3] (fun k wr => ∃ i : Nat, k = .int .i64 i ∧ i ≤ n ∧ New w wr ∧ Hid ((∀ j, j < i → stepP F T j) ∧ (i < n → i = 0 ∨ T (i - 1) < F i))) (fun k _ => n - (intOf k).toNat)
    case atStart => exact ⟨0, rfl, by omega, New.refl w, fun j hj => absurd hj (Nat.not_lt_zero j), fun _ => .inl rfl⟩
    case round =>
      obtain ⟨i, rfl, hi, hnw, hup⟩ := hrel
      by_cases hlt : i < n
      · obtain ⟨b, off, rfl, hb, hcs⟩ := hr (by omega)
        obtain ⟨c0, c1⟩ := hcs i hlt
        have f0 := NewW.keep ((hnw.cell hb).trans c0)
        have f1 := NewW.keep ((hnw.cell hb).trans c1)
        have f2 : Hid (i + 1 < n → ∀ p : NewW wr, p.to.cell? ⟨b, off + (i + 1) * 2, none⟩ = some (.int .i64 (F (i + 1)))) := fun h1 => NewW.keep ((hnw.cell hb).trans (hcs (i + 1) h1).1)
        have i0 : (0 : Int) ≤ (i : Int) := by omega
        have i1 : (i : Int) < (n : Int) := by omega
        clear hcs c0 c1 hr
        by_cases h1 : oneP (F i) (T i)
        · have hd : decide (oneP (F i) (T i)) = true := decide_eq_true h1
          have h1 := Lib.hid h1
          have hs : Hid (∀ j, j < i + 1 → stepP F T j) := fun j hj => by
            by_cases hji : j = i
            · subst hji; exact ⟨h1.out, hup.out.2 hlt⟩
            · exact hup.out.1 j (by omega)
          by_cases h0 : i + 1 < n
          · have f2 := f2.out h0
            have h0i : (i : Int) + 1 < (n : Int) := by omega
            by_cases hcmp : T i < F (i + 1)
            · have hcmp2 : ¬ F (i + 1) ≤ T i := by omega
              have hcmp3 := Lib.hid hcmp
              clear hcmp
              go_wp2
              (refine wp_region_quiet_new (by kernel_rfl) (by kernel_rfl) ?_; (repeat (first | go_big_quiet_step (first | (go_at_call 37; exact NewW.call _ (RangeMay_any _ _ _))) | quiet_step (first | (go_at_call 37; exact NewW.call _ (RangeMay_any _ _ _))))); refine wpQuiet_nil ?_; rintro W2 ⟨⟨_, hn_W2⟩, rfl⟩)
              go_wp2
              go_roundw
              case rel => exact ⟨i + 1, by go_num, by omega, hnw.next hn_W2, hs.out, fun _ => .inr hcmp3.out⟩
              case measure => simp [intOf]; omega
            · have hbad : Hid (¬ stepP F T (i + 1)) := fun h => by rcases h.2 with h2 | h2; (· omega); (· exact hcmp h2)
              have hcmp2 : F (i + 1) ≤ T i := by omega
              go_wp2
              (refine wp_region_quiet_new (by kernel_rfl) (by kernel_rfl) ?_; (repeat (first | go_big_quiet_step (first | (go_at_call 37; exact NewW.call _ (RangeMay_any _ _ _))) | quiet_step (first | (go_at_call 37; exact NewW.call _ (RangeMay_any _ _ _))))); refine wpQuiet_nil ?_; rintro W2 ⟨⟨_, hn_W2⟩, rfl⟩)
              go_wp2
              go_ret
              exact ⟨retb (mayB_bad h0 hbad.out).symm, hnw.next hn_W2⟩
          · have h0i : ¬ (i : Int) + 1 < (n : Int) := by omega
            have h0d : decide ((i : Int) + 1 < (n : Int)) = false := decide_eq_false h0i
            have h0e : decide (i + 1 < n) = false := decide_eq_false h0
            go_wp2
            (refine wp_region_quiet_new (by kernel_rfl) (by kernel_rfl) ?_; (repeat (first | go_big_quiet_step (first | (go_at_call 37; exact NewW.call _ (RangeMay_any _ _ _))) | quiet_step (first | (go_at_call 37; exact NewW.call _ (RangeMay_any _ _ _))))); refine wpQuiet_nil ?_; rintro W2 ⟨⟨_, hn_W2⟩, rfl⟩)
            go_wp2
            go_roundw
            case rel => exact ⟨i + 1, by go_num, by omega, hnw.next hn_W2, hs.out, fun h => absurd h h0⟩
            case measure => simp [intOf]; omega
        · have hd : decide (oneP (F i) (T i)) = false := decide_eq_false h1
          have hs : Hid (¬ stepP F T i) := fun h => h1 h.1
          clear h1
          go_wp2
          (refine wp_region_quiet_new (by kernel_rfl) (by kernel_rfl) ?_; (repeat (first | go_big_quiet_step (first | (go_at_call 37; exact NewW.call _ (RangeMay_any _ _ _))) | quiet_step (first | (go_at_call 37; exact NewW.call _ (RangeMay_any _ _ _))))); refine wpQuiet_nil ?_; rintro W2 ⟨⟨_, hn_W2⟩, rfl⟩)
          go_wp2
          go_ret
          exact ⟨retb (mayB_bad hlt hs.out).symm, hnw.next hn_W2⟩
      · have hs : Hid (mayB n F T = true) := mayB_true hn2 (fun j hj => hup.out.1 j (by omega))
        go_wp2
        go_ret
        exact ⟨retb hs.out.symm, hnw⟩
  · have hi2 : ¬ (n : Int) ≤ 200 := by omega
    have hs := Lib.hid (mayB_long (F := F) (T := T) hn2)
    go_enter Try.func14, Try.ntmps14
    go_wp2
    go_ret
    exact ⟨retb hs.out.symm, New.refl w⟩
end Go.Proofs.Ythkgcbjfgglciaa.span
