/-
  Contract: units are given back.
-/
import Derived.Test.YthjjchlibbheaaaSpaceTake
namespace Go.Proofs.Ythjjchlibbheaaa.space
open Go.ChangeShapes Go.WideShapes Go.ChangeAt Go.RowKit Go.Proofs.Ythjjchlibbheaaa.kit Go.Deep
set_option linter.unusedVariables false

theorem allU_all {u : Nat → Nat} {f x : Nat} : ∀ {k : Nat}, allU u f x k = true → ∀ j, j < k → u (f + j) = x
  | 0, _, j, h => absurd h (Nat.not_lt_zero j)
  | k + 1, h, j, hj => by
    unfold allU at h
    rw [Bool.and_eq_true, decide_eq_true_eq] at h
    by_cases hjk : j = k
    · subst hjk; exact h.2
    · exact allU_all h.1 j (by omega)
abbrev dee (k f c : Int) : Value := .agg #[.int .i64 k, .int .i64 f, .int .i64 c]
def giveP (n : Nat) (f c : Int) : Prop := 0 ≤ f ∧ 1 ≤ c ∧ c ≤ n ∧ f ≤ (n : Int) - c
theorem give_bad (B G U n : Nat) (u : Nat → Nat) (recs : List (Bool × Nat × Nat)) (k f c : Int) (w : World) (h : SpaceL B w G U n u recs) (hn : n ≤ 4096) (hc : ¬ giveP n f c) :
    Calls Try.prog 58 #[.pointer (some ⟨G, 0, none⟩), dee k f c] w fun e w' => e = .returned (.int .i64 2) ∧ New w w' := by
  obtain ⟨hBG, hBU, hGU, log, ⟨hG, hU, hUl⟩, hlog⟩ := h
  have c0 := hG.cell 0
  simp at c0
  have hGl := hG.lt
  clear hG hU hlog
  have hN : New w (w.alloc (.cells #[.int .i64 k, .int .i64 f, .int .i64 c] 83)) := (New.refl _).alloc _
  by_cases g1 : f < 0
  · have d1 : decide (f < 0) = true := decide_eq_true g1
    clear hc
    go_enter Try.func58, Try.ntmps58
    go_wp2
    obtain ⟨W1, hW1⟩ : ∃ W1, W1 = w.alloc (.cells #[.int .i64 k, .int .i64 f, .int .i64 c] 83) := ⟨_, rfl⟩
    rw [← hW1]
    have b1 : Blk W1 w.heap.size 83 #[.int .i64 k, .int .i64 f, .int .i64 c] := by rw [hW1]; exact Blk.fresh _ _ _
    have x0 : W1.cell? ⟨G, 0, none⟩ = some (.slice (some ⟨U, 0, none⟩) n n) := by rw [hW1]; exact (hN.cell (p := ⟨G, 0, none⟩) hGl).trans c0
    rw [← hW1] at hN
    clear hW1
    have b0 := b1.cell 0
    have b2 := b1.cell 1
    have b3 := b1.cell 2
    simp at b0 b2 b3
    have y0 := NewW.keep x0
    have y1 := NewW.keep b2
    have y2 := NewW.keep b3
    clear c0 x0 b0 b2 b3
    (refine wp_region_quiet_new (by kernel_rfl) (by kernel_rfl) ?_; (repeat (first | go_big_quiet_step (fail) | quiet_step (fail))); refine wpQuiet_nil ?_; rintro W2 ⟨⟨_, hn_W2⟩, rfl⟩)
    go_wp2
    go_ret
    exact ⟨rfl, hN.next hn_W2⟩
  · by_cases g2 : c < 1
    · have d1 : decide (f < 0) = false := decide_eq_false g1
      have d2 : decide (c < 1) = true := decide_eq_true g2
      clear hc
      go_enter Try.func58, Try.ntmps58
      go_wp2
      obtain ⟨W1, hW1⟩ : ∃ W1, W1 = w.alloc (.cells #[.int .i64 k, .int .i64 f, .int .i64 c] 83) := ⟨_, rfl⟩
      rw [← hW1]
      have b1 : Blk W1 w.heap.size 83 #[.int .i64 k, .int .i64 f, .int .i64 c] := by rw [hW1]; exact Blk.fresh _ _ _
      have x0 : W1.cell? ⟨G, 0, none⟩ = some (.slice (some ⟨U, 0, none⟩) n n) := by rw [hW1]; exact (hN.cell (p := ⟨G, 0, none⟩) hGl).trans c0
      rw [← hW1] at hN
      clear hW1
      have b0 := b1.cell 0
      have b2 := b1.cell 1
      have b3 := b1.cell 2
      simp at b0 b2 b3
      have y0 := NewW.keep x0
      have y1 := NewW.keep b2
      have y2 := NewW.keep b3
      clear c0 x0 b0 b2 b3
      (refine wp_region_quiet_new (by kernel_rfl) (by kernel_rfl) ?_; (repeat (first | go_big_quiet_step (fail) | quiet_step (fail))); refine wpQuiet_nil ?_; rintro W2 ⟨⟨_, hn_W2⟩, rfl⟩)
      go_wp2
      go_ret
      exact ⟨rfl, hN.next hn_W2⟩
    · by_cases g3 : (n : Int) < c
      · have d1 : decide (f < 0) = false := decide_eq_false g1
        have d2 : decide (c < 1) = false := decide_eq_false g2
        have d3 : decide ((n : Int) < c) = true := decide_eq_true g3
        clear hc
        go_enter Try.func58, Try.ntmps58
        go_wp2
        obtain ⟨W1, hW1⟩ : ∃ W1, W1 = w.alloc (.cells #[.int .i64 k, .int .i64 f, .int .i64 c] 83) := ⟨_, rfl⟩
        rw [← hW1]
        have b1 : Blk W1 w.heap.size 83 #[.int .i64 k, .int .i64 f, .int .i64 c] := by rw [hW1]; exact Blk.fresh _ _ _
        have x0 : W1.cell? ⟨G, 0, none⟩ = some (.slice (some ⟨U, 0, none⟩) n n) := by rw [hW1]; exact (hN.cell (p := ⟨G, 0, none⟩) hGl).trans c0
        rw [← hW1] at hN
        clear hW1
        have b0 := b1.cell 0
        have b2 := b1.cell 1
        have b3 := b1.cell 2
        simp at b0 b2 b3
        have y0 := NewW.keep x0
        have y1 := NewW.keep b2
        have y2 := NewW.keep b3
        clear c0 x0 b0 b2 b3
        (refine wp_region_quiet_new (by kernel_rfl) (by kernel_rfl) ?_; (repeat (first | go_big_quiet_step (fail) | quiet_step (fail))); refine wpQuiet_nil ?_; rintro W2 ⟨⟨_, hn_W2⟩, rfl⟩)
        go_wp2
        go_ret
        exact ⟨rfl, hN.next hn_W2⟩
      · have g4 : (n : Int) - c < f := by unfold giveP at hc; omega
        have e1 : IntKind.i64.wrap ((n : Int) - c) = (n : Int) - c := IntWalk.i64_in _ (by omega)
        have d1 : decide (f < 0) = false := decide_eq_false g1
        have d2 : decide (c < 1) = false := decide_eq_false g2
        have d3 : decide ((n : Int) < c) = false := decide_eq_false g3
        have d4 : decide ((n : Int) - c < f) = true := decide_eq_true g4
        clear hc
        go_enter Try.func58, Try.ntmps58
        go_wp2
        obtain ⟨W1, hW1⟩ : ∃ W1, W1 = w.alloc (.cells #[.int .i64 k, .int .i64 f, .int .i64 c] 83) := ⟨_, rfl⟩
        rw [← hW1]
        have b1 : Blk W1 w.heap.size 83 #[.int .i64 k, .int .i64 f, .int .i64 c] := by rw [hW1]; exact Blk.fresh _ _ _
        have x0 : W1.cell? ⟨G, 0, none⟩ = some (.slice (some ⟨U, 0, none⟩) n n) := by rw [hW1]; exact (hN.cell (p := ⟨G, 0, none⟩) hGl).trans c0
        rw [← hW1] at hN
        clear hW1
        have b0 := b1.cell 0
        have b2 := b1.cell 1
        have b3 := b1.cell 2
        simp at b0 b2 b3
        have y0 := NewW.keep x0
        have y1 := NewW.keep b2
        have y2 := NewW.keep b3
        clear c0 x0 b0 b2 b3
        (refine wp_region_quiet_new (by kernel_rfl) (by kernel_rfl) ?_; (repeat (first | go_big_quiet_step (fail) | quiet_step (fail))); refine wpQuiet_nil ?_; rintro W2 ⟨⟨_, hn_W2⟩, rfl⟩)
        go_wp2
        go_ret
        exact ⟨rfl, hN.next hn_W2⟩
theorem give_ok (B G U n f c : Nat) (k : Int) (u : Nat → Nat) (recs : List (Bool × Nat × Nat)) (w : World) (h : SpaceL B w G U n u recs) (hc1 : 1 ≤ c) (hfc : f + c ≤ n) (hn : n ≤ 4096) (hu : ∀ j, u j < 256) (hBw : B ≤ w.heap.size) :
    Calls Try.prog 58 #[.pointer (some ⟨G, 0, none⟩), dee k f c] w fun e w' =>
      ((allU u f 1 c = true ∧ e = .returned (.int .i64 0) ∧ SpaceL B w' G U n (setU u f (f + c) 2) recs) ∨ (allU u f 1 c = false ∧ e = .returned (.int .i64 6) ∧ SpaceL B w' G U n u recs)) ∧ Below B w w' ∧ KeepT w w' := by
  obtain ⟨hBG, hBU, hGU, log, hSp, hlog⟩ := h
  have c0 := hSp.1.cell 0
  simp at c0
  have hGl := hSp.1.lt
  have hUl := hSp.2.2
  obtain ⟨fi, hfi⟩ : ∃ fi : Int, Hid (fi = (f : Int)) := ⟨_, Lib.hid rfl⟩
  obtain ⟨ci, hci⟩ : ∃ ci : Int, Hid (ci = (c : Int)) := ⟨_, Lib.hid rfl⟩
  have hfi1 := hfi.out
  have hci1 := hci.out
  have hN : New w (w.alloc (.cells #[.int .i64 k, .int .i64 fi, .int .i64 ci] 83)) := (New.refl _).alloc _
  have hSp0 := Lib.hid hSp
  have hlog0 := Lib.hid hlog
  have hu0 := Lib.hid hu
  clear hSp hlog hu
  obtain ⟨t, ht⟩ : ∃ t, Hid (t = f + c) := ⟨_, (rfl : _ = _)⟩
  have g1 : ¬ fi < 0 := by omega
  have g2 : ¬ ci < 1 := by omega
  have g3 : ¬ (n : Int) < ci := by omega
  have g4 : ¬ (n : Int) - ci < fi := by omega
  have e1 : IntKind.i64.wrap ((n : Int) - ci) = (n : Int) - ci := IntWalk.i64_in _ (by omega)
  have d1 : decide (fi < 0) = false := decide_eq_false g1
  have d2 : decide (ci < 1) = false := decide_eq_false g2
  have d3 : decide ((n : Int) < ci) = false := decide_eq_false g3
  have d4 : decide ((n : Int) - ci < fi) = false := decide_eq_false g4
  have e2 : (f : Int) + (c : Int) = (t : Int) := by rw [ht.out]; push_cast; rfl
  have htn : t ≤ n := by rw [ht.out]; exact hfc
  have hft : f < t := by rw [ht.out]; omega
  obtain ⟨r, hr⟩ : ∃ r, Hid (r = allU u f 1 c) := ⟨_, (rfl : _ = _)⟩
  rw [← hr.out]
  have hru : Hid (r = true → cntU 0 (setU u f t 2) n = cntU 0 u n) := fun hh => cnt_give u f t (fun j q1 q2 => by
    have := allU_all (by rw [← hr.out]; exact hh) (j - f) (by have := ht.out; omega)
    rwa [show f + (j - f) = j by omega] at this) n
  rw [← hfi1, ← hci1]
  clear hfi1 hci1
  go_enter Try.func58, Try.ntmps58
  go_wp2
  obtain ⟨W1, hW1⟩ : ∃ W1, W1 = w.alloc (.cells #[.int .i64 k, .int .i64 fi, .int .i64 ci] 83) := ⟨_, rfl⟩
  rw [← hW1]
  have b1 : Blk W1 w.heap.size 83 #[.int .i64 k, .int .i64 fi, .int .i64 ci] := by rw [hW1]; exact Blk.fresh _ _ _
  have x0 : W1.cell? ⟨G, 0, none⟩ = some (.slice (some ⟨U, 0, none⟩) n n) := by rw [hW1]; exact (hN.cell (p := ⟨G, 0, none⟩) hGl).trans c0
  rw [← hW1] at hN
  clear hW1
  have b0 := b1.cell 0
  have b2 := b1.cell 1
  have b3 := b1.cell 2
  simp at b0 b2 b3
  have y0 := NewW.keep x0
  have y1 := NewW.keep b2
  have y2 := NewW.keep b3
  clear c0 x0 b0 b2 b3
  (refine wp_region_quiet_new (by kernel_rfl) (by kernel_rfl) ?_; (repeat (first | go_big_quiet_step (fail) | quiet_step (fail))); refine wpQuiet_nil ?_; rintro W2 ⟨⟨_, hn_W2⟩, rfl⟩)
  have k1 := (b1.new hn_W2).cell 1
  have k2 := (b1.new hn_W2).cell 2
  simp at k1 k2
  have hN2 := hN.next hn_W2
  have hwW : w.heap.size < W2.heap.size := (b1.new hn_W2).lt
  have hSp2 := hSp0.out.new hN2
  have hl2 := own_new hlog0.out hN2
  have hbx : Blk (W2.alloc (.cells #[.int .i64 f, .int .i64 t] 75)) W2.heap.size 75 #[.int .i64 f, .int .i64 t] := Blk.fresh _ _ _
  have hN3 : New W2 (W2.alloc (.cells #[.int .i64 f, .int .i64 t] 75)) := (New.refl _).alloc _
  have htf : t - f = c := by rw [ht.out]; omega
  clear y0 y1 y2 e1 d1 d2 d3 d4 g1 g2 g3 g4
  have hfi1 := hfi.out
  have hci1 := hci.out
  clear hfi hci
  subst hfi1 hci1
  go_wp2_with fail
  refine (all_ok G U n f t 1 _ log u _ (hSp2.new hN3) hft htn hn (by omega) hu0.out).mono ?_
  rw [htf, ← hr.out]
  rintro e w3 ⟨rfl, hn3⟩
  have hb3 := hbx.new hn3
  have q0 := hb3.cell 0
  have q1 := hb3.cell 1
  simp at q0 q1
  have hW2l : W2.heap.size < w3.heap.size := hb3.lt
  have hN4 := (hN2.next hN3).next hn3
  have hSp4 := (hSp2.new hN3).new hn3
  have hl4 := own_new (own_new hl2 hN3) hn3
  clear hSp2 hl2 hbx
  cases r with
  | false =>
    go_wp2
    go_ret
    exact ⟨⟨rfl, hBG, hBU, hGU, log, hSp4, hl4⟩, hN4.mono hBw, (KeepT.refl w).new hN4⟩
  | true =>
    have hcn := hru.out rfl
    have hcn1 := Lib.hid hcn
    clear hcn
    go_wp2_with fail
    refine (set_ok G U n f t 2 _ log u w3 hSp4 hGU (by omega) htn hn).mono ?_
    rintro e w5 ⟨rfl, hSp5, hgr⟩
    have hN5 : Below B w w5 := Below.grown (hN4.mono hBw) hgr (by have := hN4.size; omega) (fun g hg => by injection hg with hg; omega)
    have hK5 : KeepT w w5 := ((KeepT.refl w).new hN4).grown hgr (fun g hg => .inr (by injection hg with hg; subst hg; exact tin_row hSp4.2.1 (.inr (.inl rfl))))
    have hl5 := hl4.kept hgr (.inr (own_ne_row hl4 hSp4.2.1 (by decide)))
    rw [← hcn1.out, ht.out] at hSp5
    have hfin : SpaceL B w5 G U n (setU u f (f + c) 2) recs := ⟨hBG, hBU, hGU, log, hSp5, hl5⟩
    have hfin1 := Lib.hid hfin
    clear hfin hSp5 hSp4 hl5 hl4
    go_wp2
    go_ret
    exact ⟨⟨rfl, hfin1.out⟩, hN5, hK5⟩
end Go.Proofs.Ythjjchlibbheaaa.space
