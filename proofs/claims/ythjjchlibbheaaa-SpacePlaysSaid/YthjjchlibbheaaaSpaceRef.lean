/-
  Contract of the reference: a space behind records.
-/
import Derived.Test.YthjjchlibbheaaaSpaceAgain
namespace Go.Proofs.Ythjjchlibbheaaa.space
open Go.ChangeShapes Go.WideShapes Go.ChangeAt Go.RowKit Go.Proofs.Ythjjchlibbheaaa.kit Go.Deep
set_option linter.unusedVariables false

theorem rowIs_new {w w' : World} {b : Nat} {t : TypeId} {n : Nat} {f : Nat → Value} (h : w.rowIs b t n f) (hn : New w w') : w'.rowIs b t n f := h.of_block (hn.block _ h.lt)
theorem spaceAgain_ok (n m c : Nat) (A : Option Addr) (B : Nat → Bool) (F T : Nat → Int) (w : World) (h1 : 1 ≤ n) (hn : n ≤ 4096) (hm : m ≤ 4096) (hR : RdR w A m B F T) :
    Calls Try.prog 34 #[.int .i64 n, .slice A m c] w fun e w' =>
      ((okAll n B F T m ∧ e = .returned (.tuple #[.slice (some ⟨w.heap.size, 0, none⟩) n n, .int .i64 0]) ∧ w'.rowIs w.heap.size 3 n (inF (uAt B F T m))) ∨
       (¬ okAll n B F T m ∧ e = .returned (.tuple #[.slice none 0 0, .int .i64 4]))) ∧ New w w' := by
  have hR0 := Lib.hid hR
  clear hR
  obtain ⟨ok, hok⟩ : ∃ ok, Hid (ok = okAll n B F T) := ⟨_, (rfl : _ = _)⟩
  obtain ⟨uu, huu⟩ : ∃ uu, Hid (uu = uAt B F T) := ⟨_, (rfl : _ = _)⟩
  rw [← hok.out, ← huu.out]
  have hok0 : Hid (ok 0) := by rw [hok.out]; exact fun i hi => absurd hi (Nat.not_lt_zero i)
  have hokS : Hid (∀ i, ok i → okS n (uu i) (B i) (F i) (T i) → ok (i + 1)) := fun i h1 h2 => by
    rw [hok.out] at h1 ⊢
    rw [huu.out] at h2
    exact fun j hj => by
      by_cases hji : j = i
      · subst hji; exact h2
      · exact h1 j (by omega)
  have hokN : Hid (∀ i, i < m → ¬ okS n (uu i) (B i) (F i) (T i) → ¬ ok m) := fun i hi h2 h3 => by
    rw [hok.out] at h3; rw [huu.out] at h2; exact h2 (h3 i hi)
  have huS : Hid (∀ i, uu (i + 1) = nxU (uu i) (B i) (F i) (T i)) := fun i => by rw [huu.out]; exact (rfl : _ = _)
  have hu0 : Hid (uu 0 = fun _ => 0) := by rw [huu.out]; exact (rfl : _ = _)
  have hmk := run_make_row' (P := Try.prog) 70 3 (.int .i64 0) 8 Try.underlying70 infoInt rfl .i64 .i64 n (by omega) (by omega)
  have h1' : ¬ (n : Int) < 1 := by omega
  have h2' : ¬ 4096 < (n : Int) := by omega
  go_enter Try.func34, Try.ntmps34
  go_wp2
  go_loopw [22] (fun k wr => ∃ i : Nat, k = .int .i64 i ∧ i ≤ m ∧ Hid (ok i) ∧ New w wr ∧ wr.rowIs w.heap.size 3 n (inF (uu i))) (fun k _ => m - (intOf k).toNat)
  case atStart =>
    refine ⟨0, rfl, by omega, hok0.out, (New.refl w).alloc _, ?_⟩
    rw [hu0.out]
    exact (World.rowIs_made w (.int .i64 0) n 3).congr fun j hj => by simp [inF]
  case round =>
    obtain ⟨i, rfl, hi, hoki, hnw, hSp⟩ := hrel
    by_cases hlt : i < m
    · obtain ⟨b, off, rfl, hb, hcs⟩ := hR0.out.2 (by omega)
      obtain ⟨fr, hfr⟩ : ∃ fr, Hid (fr = B i) := ⟨_, (rfl : _ = _)⟩
      obtain ⟨f, hf⟩ : ∃ f, Hid (f = F i) := ⟨_, (rfl : _ = _)⟩
      obtain ⟨t, ht⟩ : ∃ t, Hid (t = T i) := ⟨_, (rfl : _ = _)⟩
      have c0 := (hnw.cell (p := ⟨b, off + i * 3, none⟩) hb).trans (hcs i hlt).1
      have c1 := (hnw.cell (p := ⟨b, off + i * 3 + 1, none⟩) hb).trans (hcs i hlt).2.1
      have c2 := (hnw.cell (p := ⟨b, off + i * 3 + 2, none⟩) hb).trans (hcs i hlt).2.2
      rw [← hfr.out] at c0
      rw [← hf.out] at c1
      rw [← ht.out] at c2
      clear hcs
      go_wp2
      obtain ⟨W1, hW1⟩ : ∃ W1, W1 = wr.alloc (.cells #[.bool fr, .int .i64 f, .int .i64 t] 77) := ⟨_, rfl⟩
      rw [← hW1]
      have k1 : Blk W1 wr.heap.size 77 #[.bool fr, .int .i64 f, .int .i64 t] := by rw [hW1]; exact Blk.fresh _ _ _
      have hN1 : New wr W1 := by rw [hW1]; exact (New.refl _).alloc _
      have hSp1 := Lib.hid (rowIs_new hSp hN1)
      have hwr : w.heap.size < wr.heap.size := hSp.lt
      have d0 := k1.cell 0
      have d1 := k1.cell 1
      have d2 := k1.cell 2
      simp at d0 d1 d2
      have m0 := NewW.keep d0
      have m1 := NewW.keep d1
      have m2 := NewW.keep d2
      clear hW1 hSp c0 c1 c2
      by_cases hbd : 0 ≤ f ∧ f < t ∧ t ≤ (n : Int)
      · obtain ⟨g1, g2, g3⟩ := hbd
        obtain ⟨fN, rfl⟩ : ∃ fN : Nat, f = (fN : Int) := ⟨f.toNat, by omega⟩
        obtain ⟨tN, rfl⟩ : ∃ tN : Nat, t = (tN : Int) := ⟨t.toNat, by omega⟩
        have g4 : fN < tN := by omega
        have g5 : tN ≤ n := by omega
        obtain ⟨r, hr⟩ : ∃ r, Hid (r = allU (uu i) fN (flagN fr) (tN - fN)) := ⟨_, (rfl : _ = _)⟩
        have hokS1 : Hid (r = true → okS n (uu i) (B i) (F i) (T i)) := fun h => by
          rw [← hf.out, ← ht.out, ← hfr.out]
          exact ⟨g1, g2, g3, by rw [Int.toNat_natCast, Int.toNat_natCast, ← hr.out]; exact h⟩
        have hokN1 : Hid (r = false → ¬ okS n (uu i) (B i) (F i) (T i)) := fun h h2 => by
          have := h2.2.2.2
          rw [← hf.out, ← ht.out, ← hfr.out, Int.toNat_natCast, Int.toNat_natCast, ← hr.out, h] at this
          cases this
        have huS1 : Hid (uu (i + 1) = setU (uu i) fN tN (1 - flagN fr)) := by
          rw [huS.out, ← hf.out, ← ht.out, ← hfr.out]; exact (rfl : _ = _)
        have hRM : Hid (∀ w' : World, Calls Try.prog 55 #[.agg #[.int .i64 (fN : Int), .int .i64 (tN : Int)]] w' fun e w'' => e = .returned (.bool true) ∧ New w' w'') := fun w' => by
          have := RangeMay_any fN tN w'
          rwa [decide_eq_true (show oneP fN tN by unfold oneP; omega)] at this
        obtain ⟨x, hx⟩ : ∃ x, Hid (x = flagN fr) := ⟨_, (rfl : _ = _)⟩
        have hx1 : x ≤ 1 := by rw [hx.out]; exact flagN_le fr
        have hfl : Hid (∀ w' : World, Calls Try.prog 56 #[.bool fr] w' fun e w'' => e = .returned (.int .i64 (x : Int)) ∧ New w' w'') := fun w' => (flag_any fr w').mono fun e w'' ⟨h1, h2⟩ => ⟨by rw [h1, hx.out]; rfl, h2 ▸ New.refl _⟩
        have hs : Hid (∀ w', New W1 w' → Calls Try.prog 40 #[.slice (some ⟨w.heap.size, 0, none⟩) n n, .int .i64 (fN : Int), .int .i64 (tN : Int), .int .i64 (x : Int)] w' fun e w'' => e = .returned (.bool r) ∧ New w' w'') := fun w' h => by
          have := is_ok w.heap.size n fN tN (flagN fr) (uu i) w' (rowIs_new hSp1.out h) (by omega) g5 hn
          rwa [← hr.out, ← hx.out] at this
        have g3' : ¬ (n : Int) < (tN : Int) := by omega
        have g3'' : decide ((n : Int) < (tN : Int)) = false := decide_eq_false g3'
        cases r with
        | false =>
          have hno : Hid (¬ ok m) := hokN.out i hlt (hokN1.out rfl)
          clear hokS1 hokN1
          (refine wp_region_quiet_new (by kernel_rfl) (by kernel_rfl) ?_; (repeat (first | go_big_quiet_step (first | (go_at_call 55; exact NewW.call _ (hRM.out _)) | (go_at_call 56; exact NewW.call _ (hfl.out _)) | (go_at_call 40; exact NewW.call _ (hs.out _ (NewW.is _)))) | quiet_step (first | (go_at_call 55; exact NewW.call _ (hRM.out _)) | (go_at_call 56; exact NewW.call _ (hfl.out _)) | (go_at_call 40; exact NewW.call _ (hs.out _ (NewW.is _)))))); refine wpQuiet_nil ?_; rintro W2 ⟨⟨_, hn_W2⟩, rfl⟩)
          go_wp2
          go_ret2
          exact ⟨.inr ⟨hno.out, rfl⟩, (hnw.next hN1).next hn_W2⟩
        | true =>
          have hyes : Hid (ok (i + 1)) := hokS.out i hoki.out (hokS1.out rfl)
          clear hokS1 hokN1
          (refine wp_region_quiet_new (by kernel_rfl) (by kernel_rfl) ?_; (repeat (first | go_big_quiet_step (first | (go_at_call 55; exact NewW.call _ (hRM.out _)) | (go_at_call 56; exact NewW.call _ (hfl.out _)) | (go_at_call 40; exact NewW.call _ (hs.out _ (NewW.is _)))) | quiet_step (first | (go_at_call 55; exact NewW.call _ (hRM.out _)) | (go_at_call 56; exact NewW.call _ (hfl.out _)) | (go_at_call 40; exact NewW.call _ (hs.out _ (NewW.is _)))))); refine wpQuiet_nil ?_; rintro W2 ⟨⟨_, hn_W2⟩, rfl⟩)
          obtain ⟨z, hz⟩ : ∃ z, Hid (z = 1 - x) := ⟨_, (rfl : _ = _)⟩
          have ez : IntKind.i64.wrap (1 - (x : Int)) = (z : Int) := by
            rw [show 1 - (x : Int) = (z : Int) by rw [hz.out]; omega]; exact IntWalk.i64_in _ (by have := hz.out; omega)
          have k2 := k1.new hn_W2
          have hSp2 := rowIs_new hSp1.out hn_W2
          have e0 := k2.cell 0
          have e1 := k2.cell 1
          have e2 := k2.cell 2
          simp at e0 e1 e2
          have n0 := NewW.keep e0
          have n1 := NewW.keep e1
          have n2 := NewW.keep e2
          have hW12 : wr.heap.size < W2.heap.size := k2.lt
          have hSp2h := Lib.hid hSp2
          clear m0 m1 m2 d0 d1 d2 hSp2 e0 e1 e2
          go_wp2
          (refine wp_region_new_tail 11 (by kernel_rfl) (by kernel_rfl) ?_; simp only [List.take_succ_cons, List.take_zero, List.drop_succ_cons, List.drop_zero]; (repeat (first | go_big_quiet_step (first | (go_at_call 56; exact NewW.call _ (hfl.out _))) | quiet_step (first | (go_at_call 56; exact NewW.call _ (hfl.out _))))); refine wpQuiet_nil ?_; rintro W3 ⟨⟨_, hn_W3⟩, rfl⟩)
          have hSp3 := rowIs_new hSp2h.out hn_W3
          have hN3 : New w W3 := ((hnw.next hN1).next hn_W2).next hn_W3
          clear n0 n1 n2 ez
          go_wp2_with fail
          refine (put_ok w.heap.size n fN tN z (uu i) W3 hSp3 (by omega) g5 hn).mono ?_
          rintro e w3 ⟨rfl, hSp4, hgr⟩
          rw [hz.out, hx.out, ← huS1.out] at hSp4
          have hN4 : New w w3 := Below.grown hN3 hgr hN3.size (fun g hg => by injection hg with hg; omega)
          have hSp5 := Lib.hid hSp4
          clear hSp4 hSp3
          go_wp2
          go_roundw
          case rel => exact ⟨i + 1, by go_num, by omega, hyes, hN4, hSp5.out⟩
          case measure => simp [intOf]; omega
      · have hno : Hid (¬ ok m) := hokN.out i hlt fun h => hbd ⟨by rw [hf.out]; exact h.1, by rw [hf.out, ht.out]; exact h.2.1, by rw [ht.out]; exact h.2.2.1⟩
        by_cases hone : oneP f t
        · have hnt : (n : Int) < t := by obtain ⟨a1, a2, _⟩ := hone; omega
          have hRM : Hid (∀ w' : World, Calls Try.prog 55 #[.agg #[.int .i64 f, .int .i64 t]] w' fun e w'' => e = .returned (.bool true) ∧ New w' w'') := fun w' => by
            have := RangeMay_any f t w'
            rwa [decide_eq_true hone] at this
          have hnt' : decide ((n : Int) < t) = true := decide_eq_true hnt
          clear hbd hone
          (refine wp_region_quiet_new (by kernel_rfl) (by kernel_rfl) ?_; (repeat (first | go_big_quiet_step (first | (go_at_call 55; exact NewW.call _ (hRM.out _))) | quiet_step (first | (go_at_call 55; exact NewW.call _ (hRM.out _))))); refine wpQuiet_nil ?_; rintro W2 ⟨⟨_, hn_W2⟩, rfl⟩)
          go_wp2
          go_ret2
          exact ⟨.inr ⟨hno.out, rfl⟩, (hnw.next hN1).next hn_W2⟩
        · have hRM : Hid (∀ w' : World, Calls Try.prog 55 #[.agg #[.int .i64 f, .int .i64 t]] w' fun e w'' => e = .returned (.bool false) ∧ New w' w'') := fun w' => by
            have := RangeMay_any f t w'
            rwa [decide_eq_false hone] at this
          clear hbd hone
          (refine wp_region_quiet_new (by kernel_rfl) (by kernel_rfl) ?_; (repeat (first | go_big_quiet_step (first | (go_at_call 55; exact NewW.call _ (hRM.out _))) | quiet_step (first | (go_at_call 55; exact NewW.call _ (hRM.out _))))); refine wpQuiet_nil ?_; rintro W2 ⟨⟨_, hn_W2⟩, rfl⟩)
          go_wp2
          go_ret2
          exact ⟨.inr ⟨hno.out, rfl⟩, (hnw.next hN1).next hn_W2⟩
    · have hin : i = m := by omega
      subst hin
      go_wp2
      go_ret2
      exact ⟨.inl ⟨hoki.out, rfl, hSp⟩, hnw⟩
end Go.Proofs.Ythjjchlibbheaaa.space
