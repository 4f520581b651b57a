/-
  Contracts of package comb's counts and of the reference's.
-/
import Derived.Test.YtpknpmmcploacaaProg
import Derived.Test.YtpknpmmcploacaaQuietTail
import Derived.Test.YtpknpmmcploacaaRows2
import Derived.Handy
import Derived.Deep.OwnRows
import Derived.Deep.AppendLies
import Derived.Deep.Onto
import Derived.Deep.RegionHeld3
import Derived.OwnWalk
namespace Go.Proofs.Ytpknpmmcploacaa.comb
open Go.ChangeShapes Go.WideShapes Go.ChangeAt Go.RowKit Go.Proofs.Ytpknpmmcploacaa.kit Go.Deep
set_option linter.unusedVariables false

/-- the program's way to count -/
def ch (n : Nat) : Nat → Nat
  | 0 => 1
  | i + 1 => ch n i * (n - i) / (i + 1)
theorem ch_all : ∀ n, n < 13 → ∀ i, i < 13 → ch n i ≤ 924 ∧ (i ≤ n ∨ ch n i = 0) := by decide
theorem ch_le {n i : Nat} (hn : n ≤ 12) (hi : i ≤ 12) : ch n i ≤ 924 := (ch_all n (by omega) i (by omega)).1
theorem ch_int {n i : Nat} (hn : n ≤ 12) (hi : i ≤ 12) : (ch n i : Int) * ((n : Int) - i) = ((ch n i * (n - i) : Nat) : Int) := by
  rcases (ch_all n (by omega) i (by omega)).2 with h | h
  · rw [Int.natCast_mul, Int.natCast_sub h]
  · rw [h]; simp
theorem ch_mul {n i : Nat} (hn : n ≤ 12) (hi : i ≤ 12) : ch n i * (n - i) ≤ 924 * 12 := Nat.mul_le_mul (ch_le hn hi) (by omega)

theorem divv {p i : Nat} (hp : p ≤ 924 * 12) : Value.int .i64 (wrap64 ((p : Int) / ((i : Int) + 1))) = .int .i64 ((p / (i + 1) : Nat) : Int) := by
  have h1 : p / (i + 1) ≤ p := Nat.div_le_self _ _
  have h2 : (p : Int) / ((i : Int) + 1) = ((p / (i + 1) : Nat) : Int) := by push_cast; rfl
  rw [h2]
  generalize p / (i + 1) = q at h1
  clear h2
  refine intv ?_
  unfold wrap64
  omega
theorem choose_ok (n k : Nat) (w : World) (hn : n ≤ 12) (hk : k ≤ 12) :
    Calls Try.prog 49 #[.int .i64 n, .int .i64 k] w fun e w' => e = .returned (.int .i64 (ch n k : Nat)) ∧ w = w' := by
  go_enter Try.func49, Try.ntmps49
  go_wp2
  go_loopw [8, 5] (fun c s wr => ∃ i : Nat, c = .int .i64 i ∧ i ≤ k ∧ s = .int .i64 (ch n i : Nat) ∧ w = wr) (fun c _ _ => k - (intOf c).toNat)
  case atStart => exact ⟨0, rfl, by omega, rfl, rfl⟩
  case round =>
    obtain ⟨i, rfl, hi, rfl, rfl⟩ := hrel
    by_cases hlt : i < k
    · obtain ⟨s, hs⟩ : ∃ s, Hid (s = ch n i) := ⟨_, (rfl : _ = _)⟩
      obtain ⟨p, hp⟩ : ∃ p, Hid (p = ch n i * (n - i)) := ⟨_, (rfl : _ = _)⟩
      have hsl : s ≤ 924 := by rw [hs.out]; exact ch_le hn (by omega)
      have hpl : p ≤ 924 * 12 := by rw [hp.out]; exact ch_mul hn (by omega)
      have hm : (s : Int) * ((n : Int) - i) = (p : Int) := by rw [hs.out, hp.out]; exact ch_int hn (by omega)
      rw [← hs.out]
      go_wp2
      go_roundw
      case rel => exact ⟨i + 1, by go_num, by omega, by rw [show ch n (i + 1) = p / (i + 1) by rw [hp.out]; rfl]; exact divv hpl, trivial⟩
      case measure => simp [intOf]; omega
    · have hin : i = k := by omega
      subst hin
      go_wp2
      go_ret
      exact ⟨rfl, rfl⟩
def combP (n k : Int) : Prop := 0 ≤ n ∧ n ≤ 12 ∧ 0 ≤ k ∧ k ≤ n
instance (n k : Int) : Decidable (combP n k) := by unfold combP; infer_instance
theorem fine_any (n k : Int) (w : World) :
    Calls Try.prog 48 #[.int .i64 n, .int .i64 k] w fun e w' => e = .returned (.bool (decide (combP n k))) ∧ w = w' := by
  go_enter Try.func48, Try.ntmps48
  go_wp2
  all_goals go_ret
  all_goals refine ⟨retb ?_, rfl⟩
  all_goals first
  | (refine (decide_eq_true ?_).symm; unfold combP; omega)
  | (refine (decide_eq_false ?_).symm; unfold combP; omega)
  | (refine decide_eq_decide.2 ?_; unfold combP; omega)
theorem pickRange_any (n k : Int) (w : World) :
    Calls Try.prog 50 #[.int .i64 n, .int .i64 k] w fun e w' => e = .returned (.bool (!decide (combP n k))) ∧ w = w' := by
  by_cases h : combP n k
  · rw [decide_eq_true h]
    obtain ⟨m1, m2, m3, m4⟩ := h
    go_enter Try.func50, Try.ntmps50
    go_wp2
    go_ret
    refine ⟨retb ?_, rfl⟩
    simp; omega
  · rw [decide_eq_false h]
    unfold combP at h
    go_enter Try.func50, Try.ntmps50
    go_wp2
    all_goals go_ret
    all_goals refine ⟨retb ?_, rfl⟩
    all_goals simp
    all_goals omega
theorem Count_ok (n k : Nat) (w : World) (hn : n ≤ 12) (hk : k ≤ n) :
    Calls Try.prog 27 #[.int .i64 n, .int .i64 k] w fun e w' => e = .returned (.tuple #[.int .i64 (ch n k : Nat), .int .i64 0]) ∧ w = w' := by
  have hp : combP n k := by unfold combP; omega
  go_enter Try.func27, Try.ntmps27
  go_wp2_with fail
  refine (fine_any _ _ _).mono ?_
  rw [decide_eq_true hp]
  rintro e w1 ⟨rfl, rfl⟩
  go_wp2_with fail
  refine (choose_ok n k _ hn (by omega)).mono ?_
  rintro e w1 ⟨rfl, rfl⟩
  go_wp2
  go_ret2
  exact ⟨rfl, rfl⟩
theorem Count_bad (n k : Int) (w : World) (h : ¬ combP n k) :
    Calls Try.prog 27 #[.int .i64 n, .int .i64 k] w fun e w' => e = .returned (.tuple #[.int .i64 0, .int .i64 2]) ∧ w = w' := by
  go_enter Try.func27, Try.ntmps27
  go_wp2_with fail
  refine (fine_any _ _ _).mono ?_
  rw [decide_eq_false h]
  rintro e w1 ⟨rfl, rfl⟩
  go_wp2
  go_ret2
  exact ⟨rfl, rfl⟩
theorem CombCount_bad (n k : Int) (w : World) (h : ¬ combP n k) :
    Calls Try.prog 28 #[.int .i64 n, .int .i64 k] w fun e w' => e = .returned (.tuple #[.int .i64 0, .int .i64 2]) ∧ w = w' := by
  go_enter Try.func28, Try.ntmps28
  go_wp2_with fail
  refine (pickRange_any _ _ _).mono ?_
  rw [decide_eq_false h]
  rintro e w1 ⟨rfl, rfl⟩
  go_wp2
  go_ret2
  exact ⟨rfl, rfl⟩
/-- Pascal's triangle -/
def pas : Nat → Nat → Nat
  | 0, 0 => 1
  | 0, _ + 1 => 0
  | _ + 1, 0 => 1
  | n + 1, j + 1 => pas n j + pas n (j + 1)
theorem pas_all : ∀ n, n < 14 → ∀ i, i < 14 → pas n i ≤ 4096 ∧ pas n n = 1 ∧ pas n 0 = 1 := by decide
theorem pas_ch : ∀ n, n < 13 → ∀ k, k < 13 → k ≤ n → pas n k = ch n k := by decide
theorem infoInt : (Try.prog.info? 3).map (fun i => (i.zero, i.size, i.bytes)) = some (some (.int .i64 0), 1, 8) := by kernel_rfl
def rowL (f : Nat → Nat) (k : Nat) : List Value := (List.range k).map fun j => .int .i64 (f j : Nat)
theorem rowL_succ (f : Nat → Nat) (k : Nat) : rowL f (k + 1) = rowL f k ++ [.int .i64 (f k : Nat)] := by unfold rowL; rw [List.range_succ]; simp
theorem rowL_len (f : Nat → Nat) (k : Nat) : (rowL f k).length = k := by simp [rowL]
theorem rowL_at (f : Nat → Nat) {k j : Nat} (h : j < k) : (rowL f k)[j]? = some (.int .i64 (f j : Nat)) := by simp [rowL, h]
theorem CombCount_ok (n k : Nat) (w : World) (hn : n ≤ 12) (hk : k ≤ n) :
    Calls Try.prog 28 #[.int .i64 n, .int .i64 k] w fun e w' => e = .returned (.tuple #[.int .i64 (pas n k : Nat), .int .i64 0]) ∧ New w w' := by
  have hp : combP n k := by unfold combP; omega
  obtain ⟨i0, hi0, hz0, hz1, hz2⟩ := info_parts infoInt
  go_enter Try.func28, Try.ntmps28
  go_wp2_with fail
  refine (pickRange_any _ _ _).mono ?_
  rw [decide_eq_true hp]
  rintro e w1 ⟨rfl, rfl⟩
  go_wp2
  go_loopw [7, 6] (fun c r wr => ∃ i : Nat, c = .int .i64 i ∧ i ≤ n ∧ wr.ownsRow w.heap.size 3 1 r (i + 1) (rowL (pas i) (i + 1)) ∧ New w wr) (fun c _ _ => n - (intOf c).toNat)
  case atStart =>
    exact ⟨0, rfl, by omega, World.ownsRow_lit w #[.int .i64 1] 1 (Nat.le_refl _) (by unfold maxLen; omega) rfl, (New.refl w).alloc _⟩
  case round =>
    obtain ⟨i, rfl, hi, hown, hnw⟩ := hrel
    by_cases hlt : i < n
    · obtain ⟨W0, hW0⟩ : ∃ W0, W0 = wr := ⟨_, rfl⟩
      subst hW0
      obtain ⟨g, cap, rfl, hg1, hg2⟩ := hown.form (by omega)
      have hown0 := Lib.hid hown
      clear hown
      obtain ⟨P, hP⟩ : ∃ P, Hid (P = pas (i + 1)) := ⟨_, (rfl : _ = _)⟩
      obtain ⟨Q, hQ⟩ : ∃ Q, Hid (Q = pas i) := ⟨_, (rfl : _ = _)⟩
      have hPQ : Hid (∀ j, P (j + 1) = Q j + Q (j + 1)) := fun j => by rw [hP.out, hQ.out]; rfl
      have hQs : Hid (∀ j, j < 14 → Q j ≤ 4096) := fun j hj => by rw [hQ.out]; exact (pas_all i (by omega) j hj).1
      have hPs : Hid (∀ k, rowL P (k + 1) = rowL P k ++ [.int .i64 (P k : Nat)]) := rowL_succ P
      have hP0 : Hid (rowL P 1 = [.int .i64 1]) := by rw [hP.out]; rfl
      have hPe : Hid (P (i + 1) = 1) := by rw [hP.out]; exact (pas_all (i + 1) (by omega) 0 (by omega)).2.1
      rw [← hQ.out] at hown0
      obtain ⟨m, hm⟩ : ∃ m, Hid (m = i + 1) := ⟨_, (rfl : _ = _)⟩
      rw [← hm.out] at hown0
      have hmm := hm.out
      clear hmm
      have hmn : (m : Int) ≤ 13 := by have := hm.out; omega
      rw [← hm.out]
      go_wp2
      go_loopw [9, 8] (fun c r wr => ∃ j : Nat, c = .int .i64 ((j : Int) + 1) ∧ j ≤ i ∧ wr.ownsRow W0.heap.size 3 1 r (j + 1) (rowL P (j + 1)) ∧ New W0 wr) (fun c _ _ => n + 1 - (intOf c).toNat)
      case atStart =>
        exact ⟨0, rfl, by omega, by rw [hP0.out]; exact World.ownsRow_lit W0 #[.int .i64 1] 1 (Nat.le_refl _) (by unfold maxLen; omega) rfl, (New.refl W0).alloc _⟩
      case round =>
        obtain ⟨j, rfl, hj, hnx, hn0⟩ := hrel
        by_cases hjlt : (j : Int) + 1 < (m : Int)
        · have c0 : wr.cell? ⟨g, j, none⟩ = some (.int .i64 (Q j : Nat)) := by
            rw [(own_new hown0.out hn0).cellAt j (by have := hm.out; omega)]; exact rowL_at Q (by have := hm.out; omega)
          have c1 : wr.cell? ⟨g, j + 1, none⟩ = some (.int .i64 (Q (j + 1) : Nat)) := by
            rw [(own_new hown0.out hn0).cellAt (j + 1) (by have := hm.out; omega)]; exact rowL_at Q (by have := hm.out; omega)
          have q0 : Q j ≤ 4096 := hQs.out j (by omega)
          have q1 : Q (j + 1) ≤ 4096 := hQs.out (j + 1) (by omega)
          have z0 : (0 : Int) ≤ (j : Int) := by omega
          have z1 : (j : Int) < (m : Int) := by have := hm.out; omega
          have z2 : (j : Int) + 1 < (m : Int) := by have := hm.out; omega
          have e2 : IntKind.i64.wrap (j : Int) = (j : Int) := IntWalk.i64_in _ (by omega)
          have t1 : ((j : Int) + 1).toNat = j + 1 := by omega
          have j1 : (0 : Int) ≤ (j : Int) + 1 := by omega
          have e1 : IntKind.i64.wrap (((j : Int) + 1) - 1) = (j : Int) := by rw [show ((j : Int) + 1) - 1 = (j : Int) by omega]; exact IntWalk.i64_in _ (by omega)
          have hrow : u8.ownBlock ≠ some g := fun he => by have := (hnx.lt _ he).1; omega
          have hgwr : g < wr.heap.size := Nat.lt_of_lt_of_le hg2 hn0.size
          generalize hy0 : Q j = y0 at *
          generalize hy1 : Q (j + 1) = y1 at *
          go_wp2
          go_region_held3 (fun w' => w'.cell? ⟨g, j, none⟩ = some (.int .i64 y0) ∧ w'.cell? ⟨g, j + 1, none⟩ = some (.int .i64 y1))
            (first
              | go_keep
              | (go_split_ands
                 refine ⟨?_, ?_⟩ <;> (rw [hgrow.cell_far _ (by simp; omega) (Ne.symm hrow)]; assumption)))
            ((refine step_append_lies _ (by rfl) _ _ _ (by rfl) W0.heap.size 3 i0 _ 1 8 Try.underlying24 hi0 hz0 hz1 hz2 rfl (by omega) _ (j + 1) (rowL P (j + 1)) (by rfl) ((hnx.alloc _).drew)
                ⟨wr.heap.size, 0, none⟩ 1 1 [.int .i64 _] (by rfl) (by rfl) (World.news_of_block (cs := #[.int .i64 _]) (t := 3) (fr := (0, 0)) (heap_alloc_new wr _)) (by simp [Value.oneCell'])
                (by omega) (by unfold maxLen; omega) (by omega) (by have := hn0.size; simp; omega) (wr.heap.size + 1) (by simp) ?_; intro gg cap1 w1 hown1 hgrow hat hlt1))
          go_wp2
          go_roundw
          case rel =>
            have hv : IntKind.i64.wrap ((y0 : Int) + (y1 : Int)) = ((P (j + 1) : Nat) : Int) := by
              rw [hPQ.out j, hy0, hy1]; push_cast; exact IntWalk.i64_in _ (by omega)
            rw [hv, ← hPs.out (j + 1)] at hown1
            exact ⟨j + 1, by go_num, by have := hm.out; omega, hown1, hn0.append hgrow (fun g hg => (hnx.lt g hg).1)⟩
          case measure => have := hm.out; simp [intOf]; omega
        · have hin : j = i := by have := hm.out; omega
          subst hin
          go_wp2_with (at_builtin; refine wpList_append_own _ rfl _ _ 24 rfl W0.heap.size 3 i0 _ 1 8 Try.underlying24 hi0 hz0 hz1 hz2 rfl (by decide) _ (j + 1) (rowL P (j + 1)) rfl (hnx.alloc _) ⟨wr.heap.size, 0, none⟩ 1 1 [.int .i64 1] rfl rfl (World.news_of_block (cs := #[.int .i64 _]) (t := 3) (fr := (0, 0)) (heap_alloc_new wr _)) (by simp [Value.oneCell']) (by unfold maxLen; omega) (by omega) (by have := hn0.size; simp; omega) ?_; intro v3 w3 hown3 hgrow hnil)
          have hN3 : New w w3 := (hnw.next hn0).append' hgrow fun g hg => Nat.le_trans hnw.size (hnx.lt _ hg).1
          have hown4 : w3.ownsRow w.heap.size 3 1 v3 (j + 1 + 1) (rowL P (j + 1 + 1)) := by
            rw [hPs.out (j + 1), hPe.out]
            exact hown3.mono hnw.size
          have hown5 := Lib.hid hown4
          clear hown4 hown3 hgrow hnil
          go_wp2
          go_roundw
          case rel => exact ⟨j + 1, by go_num, by omega, by rw [← hP.out]; exact hown5.out, hN3⟩
          case measure => simp [intOf]; omega
    · have hin : i = n := by omega
      subst hin
      obtain ⟨g, cap, rfl, hg1, hg2⟩ := hown.form (by omega)
      have c0 : wr.cell? ⟨g, k, none⟩ = some (.int .i64 (pas i k : Nat)) := by
        rw [hown.cellAt k (by omega)]; exact rowL_at _ (by omega)
      go_wp2
      go_ret2
      exact ⟨rfl, hnw⟩
end Go.Proofs.Ytpknpmmcploacaa.comb
