/-
  Contracts of the small functions of package drive: fault, New, the two closures, settle.
-/
import Derived.Test.YthjjchlibbheaaaDriveMem
namespace Go.Proofs.Ythjjchlibbheaaa.drive
open Go.ChangeShapes Go.WideShapes Go.ChangeAt Go.RowKit Go.Proofs.Ythjjchlibbheaaa.kit Go.Deep
set_option linter.unusedVariables false
set_option maxRecDepth 100000
abbrev jobV (k a p : Int) (R : Option Addr) (l c : Nat) : Value := .agg #[.int .i64 k, .int .i64 a, .int .i64 p, .slice R l c]
theorem faultC_at {n : Nat} {dead : Bool} {k a : Int} {len : Nat} (h1 : ¬ (k < 1 ∨ 8 < k)) (h2 : ¬ (dead = true ∧ k ≠ 8)) : faultC n dead k a len = if placedP k ∧ (a < 0 ∨ (n : Int) ≤ a) then 2 else if (k = 1 ∨ k = 6) ∧ len ≠ 128 then 1 else 0 := by
  unfold faultC
  rw [if_neg h1, if_neg h2]
set_option maxHeartbeats 2000000 in
theorem fault_any (d g n : Nat) (wv : Value) (dead : Bool) (k a p : Int) (R : Option Addr) (l c : Nat) (w : World) (hb : Blk w d 148 #[.slice (some ⟨g, 0, none⟩) n n, wv, .bool dead]) (hn : n ≤ 512) (hl : l ≤ maxLen) :
    Calls Try.prog 60 #[.pointer (some ⟨d, 0, none⟩), jobV k a p R l c] w fun e w' => e = .returned (.int .i64 (faultC n dead k a l)) ∧ New w w' := by
  obtain ⟨cd, hcd⟩ : ∃ cd, Hid (cd = faultC n dead k a l) := ⟨_, rfl⟩
  rw [← hcd.out]
  have hc0 := (hb.alloc (.cells #[.int .i64 k, .int .i64 a, .int .i64 p, .slice R l c] 93)).cell 0
  have hc2 := (hb.alloc (.cells #[.int .i64 k, .int .i64 a, .int .i64 p, .slice R l c] 93)).cell 2
  have hd0 := hb.cell 0
  have hd2 := hb.cell 2
  simp at hc0 hc2 hd0 hd2
  have hdl := hb.lt
  have hj0 : (w.alloc (.cells #[.int .i64 k, .int .i64 a, .int .i64 p, .slice R l c] 93)).cell? ⟨w.heap.size, 1, none⟩ = some (.int .i64 a) := (Blk.fresh w 93 #[.int .i64 k, .int .i64 a, .int .i64 p, .slice R l c]).cell 1
  unfold maxLen at hl
  clear hb
  by_cases h1 : k < 1
  · have e : Hid (cd = 3) := by show _ = _; rw [hcd.out]; unfold faultC; rw [if_pos (.inl h1)]
    go_enter Try.func60, Try.ntmps60
    go_wp2
    go_ret
    exact ⟨ret1 e.out.symm, (New.refl w).alloc _⟩
  by_cases h2 : 8 < k
  · have e : Hid (cd = 3) := by show _ = _; rw [hcd.out]; unfold faultC; rw [if_pos (.inr h2)]
    go_enter Try.func60, Try.ntmps60
    go_wp2
    go_ret
    exact ⟨ret1 e.out.symm, (New.refl w).alloc _⟩
  by_cases h3 : dead = true ∧ k ≠ 8
  · have e : Hid (cd = 13) := by show _ = _; rw [hcd.out]; unfold faultC; rw [if_neg (by omega), if_pos h3]
    obtain ⟨rfl, h4⟩ := h3
    have h5 : (k != 8) = true := by simpa using h4
    go_enter Try.func60, Try.ntmps60
    go_wp2
    go_ret
    exact ⟨ret1 e.out.symm, (New.refl w).alloc _⟩
  have hF := hcd.out
  rw [faultC_at (by omega) h3] at hF
  replace hF := Lib.hid hF
  have hk : (k = 8) ∨ dead = false ∧ (k = 1 ∨ k = 2 ∨ k = 3 ∨ k = 4 ∨ k = 5 ∨ k = 6 ∨ k = 7) := by
    by_cases h8 : k = 8
    · exact .inl h8
    · cases hd : dead with
      | true => exact absurd ⟨hd, h8⟩ h3
      | false => exact .inr ⟨rfl, by omega⟩
  clear h1 h2 h3 hcd
  rcases hk with rfl | ⟨rfl, rfl | rfl | rfl | rfl | rfl | rfl | rfl⟩
  · have e : Hid (cd = 0) := by show _ = _; rw [hF.out, if_neg (by unfold placedP; omega), if_neg (by omega)]
    cases dead with
    | true =>
      go_enter Try.func60, Try.ntmps60
      go_wp2
      go_ret
      exact ⟨ret1 e.out.symm, (New.refl w).alloc _⟩
    | false =>
      go_enter Try.func60, Try.ntmps60
      go_wp2
      go_ret
      exact ⟨ret1 e.out.symm, (New.refl w).alloc _⟩
  · have q1 := NewW.keep hj0
    have q2 := NewW.keep hc0
    by_cases h1 : a < 0
    · have e : Hid (cd = 2) := by show _ = _; rw [hF.out, if_pos ⟨by unfold placedP; omega, .inl h1⟩]
      go_enter Try.func60, Try.ntmps60
      go_wp2_with fail
      (refine wp_region_quiet_new (by kernel_rfl) (by kernel_rfl) ?_; (repeat (first | go_big_quiet_step (fail) | quiet_step (fail))); refine wpQuiet_nil ?_; rintro W2 ⟨⟨_, hn_W2⟩, rfl⟩)
      go_wp2
      go_ret
      exact ⟨ret1 e.out.symm, ((New.refl w).alloc _).next hn_W2⟩
    by_cases h2 : (n : Int) ≤ a
    · have e : Hid (cd = 2) := by show _ = _; rw [hF.out, if_pos ⟨by unfold placedP; omega, .inr h2⟩]
      go_enter Try.func60, Try.ntmps60
      go_wp2_with fail
      (refine wp_region_quiet_new (by kernel_rfl) (by kernel_rfl) ?_; (repeat (first | go_big_quiet_step (fail) | quiet_step (fail))); refine wpQuiet_nil ?_; rintro W2 ⟨⟨_, hn_W2⟩, rfl⟩)
      go_wp2
      go_ret
      exact ⟨ret1 e.out.symm, ((New.refl w).alloc _).next hn_W2⟩
    by_cases h3 : l = 128
    · have e : Hid (cd = 0) := by show _ = _; rw [hF.out, if_neg (by omega), if_neg (by omega)]
      have hl3 : ((l : Int) != 128) = false := by rw [h3]; rfl
      clear h3
      go_enter Try.func60, Try.ntmps60
      go_wp2_with fail
      (refine wp_region_quiet_new (by kernel_rfl) (by kernel_rfl) ?_; (repeat (first | go_big_quiet_step (fail) | quiet_step (fail))); refine wpQuiet_nil ?_; rintro W2 ⟨⟨_, hn_W2⟩, rfl⟩)
      have j0 : W2.cell? ⟨w.heap.size, 0, none⟩ = some (.int .i64 1) := (hn_W2.cell (p := ⟨w.heap.size, 0, none⟩) (by simp)).trans ((Blk.fresh w 93 #[.int .i64 1, .int .i64 a, .int .i64 p, .slice R l c]).cell 0)
      have j3 : W2.cell? ⟨w.heap.size, 3, none⟩ = some (.slice R l c) := (hn_W2.cell (p := ⟨w.heap.size, 3, none⟩) (by simp)).trans ((Blk.fresh w 93 #[.int .i64 1, .int .i64 a, .int .i64 p, .slice R l c]).cell 3)
      go_wp2
      go_ret
      exact ⟨ret1 e.out.symm, ((New.refl w).alloc _).next hn_W2⟩
    · have e : Hid (cd = 1) := by show _ = _; rw [hF.out, if_neg (by omega), if_pos ⟨by omega, h3⟩]
      have hl3 : ((l : Int) != 128) = true := by simp; omega
      go_enter Try.func60, Try.ntmps60
      go_wp2_with fail
      (refine wp_region_quiet_new (by kernel_rfl) (by kernel_rfl) ?_; (repeat (first | go_big_quiet_step (fail) | quiet_step (fail))); refine wpQuiet_nil ?_; rintro W2 ⟨⟨_, hn_W2⟩, rfl⟩)
      have j0 : W2.cell? ⟨w.heap.size, 0, none⟩ = some (.int .i64 1) := (hn_W2.cell (p := ⟨w.heap.size, 0, none⟩) (by simp)).trans ((Blk.fresh w 93 #[.int .i64 1, .int .i64 a, .int .i64 p, .slice R l c]).cell 0)
      have j3 : W2.cell? ⟨w.heap.size, 3, none⟩ = some (.slice R l c) := (hn_W2.cell (p := ⟨w.heap.size, 3, none⟩) (by simp)).trans ((Blk.fresh w 93 #[.int .i64 1, .int .i64 a, .int .i64 p, .slice R l c]).cell 3)
      go_wp2
      go_ret
      exact ⟨ret1 e.out.symm, ((New.refl w).alloc _).next hn_W2⟩
  · have q1 := NewW.keep hj0
    have q2 := NewW.keep hc0
    by_cases h1 : a < 0
    · have e : Hid (cd = 2) := by show _ = _; rw [hF.out, if_pos ⟨by unfold placedP; omega, .inl h1⟩]
      go_enter Try.func60, Try.ntmps60
      go_wp2_with fail
      (refine wp_region_quiet_new (by kernel_rfl) (by kernel_rfl) ?_; (repeat (first | go_big_quiet_step (fail) | quiet_step (fail))); refine wpQuiet_nil ?_; rintro W2 ⟨⟨_, hn_W2⟩, rfl⟩)
      go_wp2
      go_ret
      exact ⟨ret1 e.out.symm, ((New.refl w).alloc _).next hn_W2⟩
    by_cases h2 : (n : Int) ≤ a
    · have e : Hid (cd = 2) := by show _ = _; rw [hF.out, if_pos ⟨by unfold placedP; omega, .inr h2⟩]
      go_enter Try.func60, Try.ntmps60
      go_wp2_with fail
      (refine wp_region_quiet_new (by kernel_rfl) (by kernel_rfl) ?_; (repeat (first | go_big_quiet_step (fail) | quiet_step (fail))); refine wpQuiet_nil ?_; rintro W2 ⟨⟨_, hn_W2⟩, rfl⟩)
      go_wp2
      go_ret
      exact ⟨ret1 e.out.symm, ((New.refl w).alloc _).next hn_W2⟩
    have e : Hid (cd = 0) := by show _ = _; rw [hF.out, if_neg (by omega), if_neg (by omega)]
    go_enter Try.func60, Try.ntmps60
    go_wp2_with fail
    (refine wp_region_quiet_new (by kernel_rfl) (by kernel_rfl) ?_; (repeat (first | go_big_quiet_step (fail) | quiet_step (fail))); refine wpQuiet_nil ?_; rintro W2 ⟨⟨_, hn_W2⟩, rfl⟩)
    have j0 : W2.cell? ⟨w.heap.size, 0, none⟩ = some (.int .i64 2) := (hn_W2.cell (p := ⟨w.heap.size, 0, none⟩) (by simp)).trans ((Blk.fresh w 93 #[.int .i64 2, .int .i64 a, .int .i64 p, .slice R l c]).cell 0)
    have j3 : W2.cell? ⟨w.heap.size, 3, none⟩ = some (.slice R l c) := (hn_W2.cell (p := ⟨w.heap.size, 3, none⟩) (by simp)).trans ((Blk.fresh w 93 #[.int .i64 2, .int .i64 a, .int .i64 p, .slice R l c]).cell 3)
    go_wp2
    go_ret
    exact ⟨ret1 e.out.symm, ((New.refl w).alloc _).next hn_W2⟩
  · have e : Hid (cd = 0) := by show _ = _; rw [hF.out, if_neg (by unfold placedP; omega), if_neg (by omega)]
    go_enter Try.func60, Try.ntmps60
    go_wp2
    go_ret
    exact ⟨ret1 e.out.symm, (New.refl w).alloc _⟩
  · have e : Hid (cd = 0) := by show _ = _; rw [hF.out, if_neg (by unfold placedP; omega), if_neg (by omega)]
    go_enter Try.func60, Try.ntmps60
    go_wp2
    go_ret
    exact ⟨ret1 e.out.symm, (New.refl w).alloc _⟩
  · have q1 := NewW.keep hj0
    have q2 := NewW.keep hc0
    by_cases h1 : a < 0
    · have e : Hid (cd = 2) := by show _ = _; rw [hF.out, if_pos ⟨by unfold placedP; omega, .inl h1⟩]
      go_enter Try.func60, Try.ntmps60
      go_wp2_with fail
      (refine wp_region_quiet_new (by kernel_rfl) (by kernel_rfl) ?_; (repeat (first | go_big_quiet_step (fail) | quiet_step (fail))); refine wpQuiet_nil ?_; rintro W2 ⟨⟨_, hn_W2⟩, rfl⟩)
      go_wp2
      go_ret
      exact ⟨ret1 e.out.symm, ((New.refl w).alloc _).next hn_W2⟩
    by_cases h2 : (n : Int) ≤ a
    · have e : Hid (cd = 2) := by show _ = _; rw [hF.out, if_pos ⟨by unfold placedP; omega, .inr h2⟩]
      go_enter Try.func60, Try.ntmps60
      go_wp2_with fail
      (refine wp_region_quiet_new (by kernel_rfl) (by kernel_rfl) ?_; (repeat (first | go_big_quiet_step (fail) | quiet_step (fail))); refine wpQuiet_nil ?_; rintro W2 ⟨⟨_, hn_W2⟩, rfl⟩)
      go_wp2
      go_ret
      exact ⟨ret1 e.out.symm, ((New.refl w).alloc _).next hn_W2⟩
    have e : Hid (cd = 0) := by show _ = _; rw [hF.out, if_neg (by omega), if_neg (by omega)]
    go_enter Try.func60, Try.ntmps60
    go_wp2_with fail
    (refine wp_region_quiet_new (by kernel_rfl) (by kernel_rfl) ?_; (repeat (first | go_big_quiet_step (fail) | quiet_step (fail))); refine wpQuiet_nil ?_; rintro W2 ⟨⟨_, hn_W2⟩, rfl⟩)
    have j0 : W2.cell? ⟨w.heap.size, 0, none⟩ = some (.int .i64 5) := (hn_W2.cell (p := ⟨w.heap.size, 0, none⟩) (by simp)).trans ((Blk.fresh w 93 #[.int .i64 5, .int .i64 a, .int .i64 p, .slice R l c]).cell 0)
    have j3 : W2.cell? ⟨w.heap.size, 3, none⟩ = some (.slice R l c) := (hn_W2.cell (p := ⟨w.heap.size, 3, none⟩) (by simp)).trans ((Blk.fresh w 93 #[.int .i64 5, .int .i64 a, .int .i64 p, .slice R l c]).cell 3)
    go_wp2
    go_ret
    exact ⟨ret1 e.out.symm, ((New.refl w).alloc _).next hn_W2⟩
  · have q1 := NewW.keep hj0
    have q2 := NewW.keep hc0
    by_cases h1 : a < 0
    · have e : Hid (cd = 2) := by show _ = _; rw [hF.out, if_pos ⟨by unfold placedP; omega, .inl h1⟩]
      go_enter Try.func60, Try.ntmps60
      go_wp2_with fail
      (refine wp_region_quiet_new (by kernel_rfl) (by kernel_rfl) ?_; (repeat (first | go_big_quiet_step (fail) | quiet_step (fail))); refine wpQuiet_nil ?_; rintro W2 ⟨⟨_, hn_W2⟩, rfl⟩)
      go_wp2
      go_ret
      exact ⟨ret1 e.out.symm, ((New.refl w).alloc _).next hn_W2⟩
    by_cases h2 : (n : Int) ≤ a
    · have e : Hid (cd = 2) := by show _ = _; rw [hF.out, if_pos ⟨by unfold placedP; omega, .inr h2⟩]
      go_enter Try.func60, Try.ntmps60
      go_wp2_with fail
      (refine wp_region_quiet_new (by kernel_rfl) (by kernel_rfl) ?_; (repeat (first | go_big_quiet_step (fail) | quiet_step (fail))); refine wpQuiet_nil ?_; rintro W2 ⟨⟨_, hn_W2⟩, rfl⟩)
      go_wp2
      go_ret
      exact ⟨ret1 e.out.symm, ((New.refl w).alloc _).next hn_W2⟩
    by_cases h3 : l = 128
    · have e : Hid (cd = 0) := by show _ = _; rw [hF.out, if_neg (by omega), if_neg (by omega)]
      have hl3 : ((l : Int) != 128) = false := by rw [h3]; rfl
      clear h3
      go_enter Try.func60, Try.ntmps60
      go_wp2_with fail
      (refine wp_region_quiet_new (by kernel_rfl) (by kernel_rfl) ?_; (repeat (first | go_big_quiet_step (fail) | quiet_step (fail))); refine wpQuiet_nil ?_; rintro W2 ⟨⟨_, hn_W2⟩, rfl⟩)
      have j0 : W2.cell? ⟨w.heap.size, 0, none⟩ = some (.int .i64 6) := (hn_W2.cell (p := ⟨w.heap.size, 0, none⟩) (by simp)).trans ((Blk.fresh w 93 #[.int .i64 6, .int .i64 a, .int .i64 p, .slice R l c]).cell 0)
      have j3 : W2.cell? ⟨w.heap.size, 3, none⟩ = some (.slice R l c) := (hn_W2.cell (p := ⟨w.heap.size, 3, none⟩) (by simp)).trans ((Blk.fresh w 93 #[.int .i64 6, .int .i64 a, .int .i64 p, .slice R l c]).cell 3)
      go_wp2
      go_ret
      exact ⟨ret1 e.out.symm, ((New.refl w).alloc _).next hn_W2⟩
    · have e : Hid (cd = 1) := by show _ = _; rw [hF.out, if_neg (by omega), if_pos ⟨by omega, h3⟩]
      have hl3 : ((l : Int) != 128) = true := by simp; omega
      go_enter Try.func60, Try.ntmps60
      go_wp2_with fail
      (refine wp_region_quiet_new (by kernel_rfl) (by kernel_rfl) ?_; (repeat (first | go_big_quiet_step (fail) | quiet_step (fail))); refine wpQuiet_nil ?_; rintro W2 ⟨⟨_, hn_W2⟩, rfl⟩)
      have j0 : W2.cell? ⟨w.heap.size, 0, none⟩ = some (.int .i64 6) := (hn_W2.cell (p := ⟨w.heap.size, 0, none⟩) (by simp)).trans ((Blk.fresh w 93 #[.int .i64 6, .int .i64 a, .int .i64 p, .slice R l c]).cell 0)
      have j3 : W2.cell? ⟨w.heap.size, 3, none⟩ = some (.slice R l c) := (hn_W2.cell (p := ⟨w.heap.size, 3, none⟩) (by simp)).trans ((Blk.fresh w 93 #[.int .i64 6, .int .i64 a, .int .i64 p, .slice R l c]).cell 3)
      go_wp2
      go_ret
      exact ⟨ret1 e.out.symm, ((New.refl w).alloc _).next hn_W2⟩
  · have e : Hid (cd = 0) := by show _ = _; rw [hF.out, if_neg (by unfold placedP; omega), if_neg (by omega)]
    go_enter Try.func60, Try.ntmps60
    go_wp2
    go_ret
    exact ⟨ret1 e.out.symm, (New.refl w).alloc _⟩
end Go.Proofs.Ythjjchlibbheaaa.drive
