/-
  Contract of the reference: a matrix is applied to a list.
-/
import Derived.Test.YtidhghcgbomdiaaMatApply
import Derived.Test.YtidhghcgbomdiaaQuietTail
namespace Go.Proofs.Ytidhghcgbomdiaa.mat
open Go.ChangeShapes Go.WideShapes Go.ChangeAt Go.RowKit Go.Proofs.Ytidhghcgbomdiaa.kit Go.Proofs.Ytidhghcgbomdiaa.gf Go.Deep
set_option linter.unusedVariables false

/-- what lies in a row of sums while they are reckoned -/
def stF (a : Nat → Nat) (s i : Nat) : Nat → Value := fun j => .int .i64 ((if j < i then a j else if j = i then s else 0 : Nat) : Int)
theorem stF_at (a : Nat → Nat) (s i : Nat) : stF a s i i = .int .i64 (s : Int) := by simp [stF]
theorem stF_set (a : Nat → Nat) (s s' i : Nat) : (fun j => if j = i then Value.int .i64 (s' : Int) else stF a s i j) = stF a s' i := by
  funext j
  unfold stF
  by_cases h : j = i
  · simp [h]
  · simp [h]
theorem stF_next (a : Nat → Nat) (i : Nat) : stF a (a i) i = stF a 0 (i + 1) := by
  funext j
  unfold stF
  congr 2
  by_cases h1 : j < i
  · simp [h1, Nat.lt_succ_of_lt h1]
  · by_cases h2 : j = i
    · subst h2; simp
    · have h3 : ¬ j < i + 1 := by omega
      simp [h1, h2, h3]
theorem MatApply_any (A : Option Addr) (n c : Nat) (R : Nat → Option Addr) (L C : Nat → Nat) (M : Nat → Nat → Int) (V : Option Addr) (nv cv : Nat) (Y : Nat → Int) (w : World)
    (hM : RdM .i64 w A n R L C M) (hV : RdI .i64 w V nv Y) :
    Calls Try.prog 30 #[.slice A n c, .slice V nv cv] w fun e w' => ∃ v, e = .returned (.tuple #[v, .int .i64 (apCode n L M nv Y)]) ∧ (∃ B d, v = .slice B (apLen n L M nv Y) d ∧ RdI .i64 w' B (apLen n L M nv Y) (fun i => (apVal M nv Y i : Nat))) ∧ New w w' := by
  have hm1 := hV.1
  unfold maxLen at hm1
  cases hm : mayM n L M with
  | false =>
    have hc : apCode n L M nv Y = 4 := by unfold apCode; simp [hm]
    have hl : apLen n L M nv Y = 0 := by unfold apLen; simp [hc]
    rw [hc, hl]
    clear hc hl
    go_enter Try.func30, Try.ntmps30
    go_wp2_with fail
    refine (MatMay_any _ _ _ _ _ _ _ _ hM).mono ?_
    rw [hm]
    rintro e w1 ⟨rfl, rfl⟩
    go_wp2
    go_ret2
    exact ⟨_, rfl, ⟨none, 0, rfl, nil_rdI _ _⟩, New.refl w⟩
  | true =>
    obtain ⟨cd, hcd⟩ : ∃ cd, Hid (cd = apCode n L M nv Y) := ⟨_, (rfl : _ = _)⟩
    obtain ⟨ln, hln⟩ : ∃ ln, Hid (ln = apLen n L M nv Y) := ⟨_, (rfl : _ = _)⟩
    rw [← hcd.out, ← hln.out]
    have hV0 := Lib.hid hV
    have hM0 := Lib.hid hM
    have hm0 := Lib.hid hm
    clear hV hM hm
    go_enter Try.func30, Try.ntmps30
    go_wp2_with fail
    refine (MatMay_any _ _ _ _ _ _ _ _ hM0.out).mono ?_
    rw [hm0.out]
    rintro e w1 ⟨rfl, rfl⟩
    go_wp2
    go_loopw [16] (fun k wr => ∃ i : Nat, k = .int .i64 i ∧ i ≤ nv ∧ w = wr ∧ Hid (∀ j, j < i → elP (Y j))) (fun k _ => nv - (intOf k).toNat)
    case atStart => exact ⟨0, rfl, by omega, rfl, fun j hj => absurd hj (Nat.not_lt_zero j)⟩
    case round =>
      obtain ⟨i, rfl, hi, rfl, hup⟩ := hrel
      by_cases hlt : i < nv
      · obtain ⟨b, off, rfl, hb, hcs⟩ := hV0.out.2 (by omega)
        have c0 := hcs i hlt
        clear hcs
        go_wp2_with fail
        refine (mat.Element_any _ _).mono ?_
        rintro e w1 ⟨rfl, rfl⟩
        by_cases hp : elP (Y i)
        · have hd : decide (elP (Y i)) = true := decide_eq_true hp
          have hs : Hid (∀ j, j < i + 1 → elP (Y j)) := fun j hj => by
            by_cases hji : j = i
            · subst hji; exact hp
            · exact hup.out j (by omega)
          clear hp
          go_wp2
          go_roundw
          case rel => exact ⟨i + 1, by go_num, by omega, trivial, hs.out⟩
          case measure => simp [intOf]; omega
        · have hd : decide (elP (Y i)) = false := decide_eq_false hp
          have ha : allE nv Y = false := allE_bad hlt hp
          have hc : cd = 4 := by rw [hcd.out]; unfold apCode; simp [ha]
          have hl : ln = 0 := by rw [hln.out]; unfold apLen; rw [← hcd.out]; simp [hc]
          subst hc hl
          clear ha hp
          go_wp2
          go_ret2
          exact ⟨_, rfl, ⟨none, 0, rfl, nil_rdI _ _⟩, New.refl _⟩
      · have hin : i = nv := by omega
        subst hin
        have ha : Hid (allE i Y = true) := allE_true hup.out
        obtain ⟨hn1, hn8, hrow⟩ := mayM_out hm0.out
        obtain ⟨b, off, rfl, hb, hcs⟩ := hM0.out.2.1 (by omega)
        have z0 := hcs 0 (by omega)
        simp at z0
        have hcs0 := Lib.hid hcs
        have hrow0 := Lib.hid hrow
        clear hcs hrow
        have hL8 : L 0 ≤ 8 := (hrow0.out 0 (by omega)).2.2.1
        by_cases hsz : L 0 = i
        · have hc : cd = 0 := by rw [hcd.out]; unfold apCode; simp [hm0.out, ha.out, hsz]
          have hl : n = ln := by rw [hln.out]; unfold apLen; rw [← hcd.out]; simp [hc]
          subst hc hl
          have hsz1 := Lib.hid hsz
          rw [hsz] at z0
          clear hsz
          have hmk := run_make_row' (P := Try.prog) 30 3 (.int .i64 0) 8 Try.underlying30 infoInt rfl .i64 .i64 n (by omega) (by omega)
          go_wp2
          go_loopw [36] (fun k wr => ∃ q : Nat, k = .int .i64 q ∧ q ≤ n ∧ New w wr ∧ wr.rowIs w.heap.size 3 n (stF (apVal M i Y) 0 q)) (fun k _ => n - (intOf k).toNat)
          case atStart => exact ⟨0, rfl, by omega, (New.refl w).alloc _, (World.rowIs_made w (.int .i64 0) n 3).congr fun j hj => by simp [stF]⟩
          case round =>
            obtain ⟨q, rfl, hq, hnw, hrw⟩ := hrel
            by_cases hqn : q < n
            · have hLk : Hid (L q = i) := (hrow0.out q hqn).1.trans hsz1.out
              have cq := hcs0.out q hqn
              rw [hLk.out] at cq
              have hX : Hid (RdI .i64 w (R q) i (M q)) := by have := (hM0.out.2.2 q hqn).1; rw [hLk.out] at this; exact this
              have hel : Hid (∀ j, j < i → elP (M q j)) := by have := allE_out (hrow0.out q hqn).2.2.2; rw [hLk.out] at this; exact this
              go_wp2
              go_loopw [41] (fun k wr => ∃ p : Nat, k = .int .i64 p ∧ p ≤ i ∧ New w wr ∧ wr.rowIs w.heap.size 3 n (stF (apVal M i Y) (dotN (elN M q) (numN Y) p) q)) (fun k _ => i - (intOf k).toNat)
              case atStart => exact ⟨0, rfl, by omega, hnw, hrw⟩
              case round =>
                obtain ⟨p, rfl, hp, hnw, hrw⟩ := hrel
                by_cases hpi : p < i
                · obtain ⟨b1, off1, hR, hb1, hcs1⟩ := hX.out.2 (by omega)
                  have hR1 := Lib.hid hR
                  clear hR
                  rw [hR1.out] at cq
                  have ex := hel.out p hpi
                  have ey := hup.out p hpi
                  obtain ⟨x, hx⟩ : ∃ x, Hid (x = elN M q p) := ⟨_, (rfl : _ = _)⟩
                  obtain ⟨y, hy⟩ : ∃ y, Hid (y = numN Y p) := ⟨_, (rfl : _ = _)⟩
                  have cM : wr.cell? ⟨b1, off1 + p, none⟩ = some (.int .i64 (x : Int)) := by
                    rw [hx.out, show (elN M q p : Int) = M q p by unfold elP at ex; unfold elN; omega]; exact (hnw.cell hb1).trans (hcs1 p hpi)
                  have hxl : x < 256 := by rw [hx.out]; unfold elP at ex; unfold elN; omega
                  obtain ⟨b2, off2, rfl, hb2, hcs2⟩ := hV0.out.2 (by omega)
                  have cV : wr.cell? ⟨b2, off2 + p, none⟩ = some (.int .i64 (y : Int)) := by
                    rw [hy.out, show (numN Y p : Int) = Y p by unfold elP at ey; unfold numN; omega]; exact (hnw.cell hb2).trans (hcs2 p hpi)
                  have hyl : y < 256 := by rw [hy.out]; unfold elP at ey; unfold numN; omega
                  have cq2 := (hnw.cell hb).trans cq
                  obtain ⟨s, hs⟩ : ∃ s, Hid (s = dotN (elN M q) (numN Y) p) := ⟨_, (rfl : _ = _)⟩
                  rw [← hs.out] at hrw
                  have hsl : s < 256 := by rw [hs.out]; exact dotN_lt _ _ _ fun j hj => by have := hel.out j (by omega); unfold elP at this; unfold elN; omega
                  have co := hrw.cell hqn
                  rw [stF_at] at co
                  have hg := hrw.lt
                  clear hcs1 hcs2 ex ey cq
                  obtain ⟨t, ht⟩ : ∃ t, Hid (t = mul x y) := ⟨_, (rfl : _ = _)⟩
                  have htl : t < 256 := by rw [ht.out]; exact mul_lt _ _ hxl
                  have hxor := i64_xor_nat s t (by omega) (by omega)
                  have hmul := Lib.hid (mulOf_any x y hxl hyl)
                  rw [← ht.out] at hmul
                  have hmul2 : Hid (∀ w, Calls Try.prog 42 #[.int .i64 x, .int .i64 y] w fun e w' => e = .returned (.int .i64 t) ∧ New w w') := fun w => (hmul.out w).mono fun e w' h => ⟨h.1, by rw [← h.2]; exact New.refl w⟩
                  have hnw1 := Lib.hid hnw
                  have hrw1 := Lib.hid hrw
                  clear hmul hnw hrw
                  have a1 : (q : Int) < (n : Int) := by omega
                  have a2 : (p : Int) < (i : Int) := by omega
                  have a3 : (0 : Int) ≤ (q : Int) := by omega
                  have a4 : (0 : Int) ≤ (p : Int) := by omega
                  go_wp2
                  have k0 := NewW.keep co
                  have k1 := NewW.keep cM
                  have k2 := NewW.keep cV
                  have k3 := NewW.keep cq2
                  (refine wp_region_new_tail 18 (by kernel_rfl) (by kernel_rfl) ?_; simp only [List.take_succ_cons, List.take_zero, List.drop_succ_cons, List.drop_zero]; (repeat (first | go_big_quiet_step (first | (go_at_call 42; exact NewW.call _ (hmul2.out _))) | quiet_step (first | (go_at_call 42; exact NewW.call _ (hmul2.out _))))); refine wpQuiet_nil ?_; rintro W2 ⟨⟨_, hn_W2⟩, rfl⟩)
                  have hrw2 : W2.rowIs w.heap.size 3 n (stF (apVal M i Y) s q) := hrw1.out.of_block (hn_W2.block _ hrw1.out.lt)
                  have hz := hrw2.frozen q
                  have hz2 := hrw2.cell hqn
                  rw [stF_at] at hz2
                  go_wp2
                  go_roundw
                  case rel =>
                    refine ⟨p + 1, by go_num, by omega, (hnw1.out.next hn_W2).set (Nat.le_refl _) _, ?_⟩
                    have := hrw2.set q (.int .i64 ((s ^^^ t : Nat) : Int))
                    rw [stF_set] at this
                    rw [show dotN (elN M q) (numN Y) (p + 1) = s ^^^ t by rw [hs.out, ht.out, hx.out, hy.out]; rfl]
                    exact this
                  case measure => simp [intOf]; omega
                · have hpe : Hid (p = i) := by show p = i; omega
                  have hp2 : ¬ (p : Int) < i := by omega
                  go_wp2
                  go_roundw
                  case rel =>
                    refine ⟨q + 1, by go_num, by omega, hnw, ?_⟩
                    rw [hpe.out] at hrw
                    have h2 := stF_next (apVal M i Y) q
                    rw [← h2]
                    exact hrw
                  case measure => simp [intOf]; omega
            · have hqe : q = n := by omega
              subst hqe
              go_wp2
              go_ret2
              refine ⟨_, rfl, ⟨_, _, rfl, by unfold maxLen; omega, fun h0 => ⟨w.heap.size, 0, rfl, hrw.lt, fun j hj => ?_⟩⟩, hnw⟩
              have := hrw.cell hj
              simp only [Nat.zero_add]
              rw [this]
              simp [stF, hj]
        · have hc : cd = 1 := by rw [hcd.out]; unfold apCode; simp [hm0.out, ha.out, hsz]
          have hl : ln = 0 := by rw [hln.out]; unfold apLen; rw [← hcd.out]; simp [hc]
          subst hc hl
          have hne : ((i : Int) != (L 0 : Int)) = true := by simp; omega
          go_wp2
          go_ret2
          exact ⟨_, rfl, ⟨none, 0, rfl, nil_rdI _ _⟩, New.refl _⟩
end Go.Proofs.Ytidhghcgbomdiaa.mat
