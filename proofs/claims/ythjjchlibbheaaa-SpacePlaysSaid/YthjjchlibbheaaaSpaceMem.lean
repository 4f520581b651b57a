/-
  Contracts: units of a space are looked at, and set; those of the reference too.
-/
import Derived.Test.YthjjchlibbheaaaProg
import Derived.Test.YthjjchlibbheaaaQuietTail
import Derived.Test.YthjjchlibbheaaaRows2
import Derived.Handy
import Derived.BigRegion
import Derived.Deep.OwnRows
import Derived.Deep.AppendLies
import Derived.Deep.Onto
import Derived.OwnWalk
import Derived.Maps.AppendAt
import Derived.Great.Walk
namespace Go.Proofs.Ythjjchlibbheaaa.space
open Go.ChangeShapes Go.WideShapes Go.ChangeAt Go.RowKit Go.Proofs.Ythjjchlibbheaaa.kit Go.Deep
set_option linter.unusedVariables false

/-- units as they lie: as bytes, and as numbers -/
def byF (u : Nat → Nat) : Nat → Value := fun i => .int .u8 (u i : Nat)
def inF (u : Nat → Nat) : Nat → Value := fun i => .int .i64 (u i : Nat)
/-- are all of a stretch so? -/
def allU (u : Nat → Nat) (f x : Nat) : Nat → Bool
  | 0 => true
  | k + 1 => allU u f x k && decide (u (f + k) = x)
theorem allU_bad {u : Nat → Nat} {f x : Nat} : ∀ {k j : Nat}, j < k → u (f + j) ≠ x → allU u f x k = false
  | 0, j, h, _ => absurd h (Nat.not_lt_zero j)
  | k + 1, j, h, hu => by
    unfold allU
    by_cases hj : j = k
    · subst hj; simp [hu]
    · rw [allU_bad (k := k) (j := j) (by omega) hu]; rfl
theorem allU_true {u : Nat → Nat} {f x : Nat} : ∀ {k : Nat}, (∀ j, j < k → u (f + j) = x) → allU u f x k = true
  | 0, _ => rfl
  | k + 1, h => by
    unfold allU
    rw [allU_true (k := k) fun j hj => h j (by omega), h k (by omega)]; simp
theorem grownBy_set (w : World) (U q : Nat) (v : Value) : w.grownBy (w.setCell ⟨U, q, none⟩ v) (some U) :=
  ⟨rfl, rfl, rfl, by simp, fun k _ hk => heap_setCell_other w ⟨U, q, none⟩ k v (fun e => hk (by simp [e]))⟩
/-- a stretch is set -/
def setU (u : Nat → Nat) (f t x : Nat) : Nat → Nat := fun j => if f ≤ j ∧ j < t then x else u j
theorem setU_none (u : Nat → Nat) (f x : Nat) : setU u f f x = u := by
  funext j; unfold setU; rw [if_neg (by omega)]
theorem setU_next (u : Nat → Nat) (f t x : Nat) (h : f ≤ t) : (fun j => if j = t then x else setU u f t x j) = setU u f (t + 1) x := by
  funext j
  unfold setU
  by_cases hj : j = t
  · subst hj; rw [if_pos rfl, if_pos (by omega)]
  · rw [if_neg hj]
    by_cases h2 : f ≤ j ∧ j < t
    · rw [if_pos h2, if_pos (by omega)]
    · rw [if_neg h2, if_neg (by omega)]
theorem setU_by (u : Nat → Nat) (f t x : Nat) (h : f ≤ t) : (fun j => if j = t then Value.int .u8 (x : Int) else byF (setU u f t x) j) = byF (setU u f (t + 1) x) := by
  rw [← setU_next u f t x h]
  funext j
  unfold byF
  by_cases hj : j = t
  · simp [hj]
  · simp [hj]
theorem setU_in (u : Nat → Nat) (f t x : Nat) (h : f ≤ t) : (fun j => if j = t then Value.int .i64 (x : Int) else inF (setU u f t x) j) = inF (setU u f (t + 1) x) := by
  rw [← setU_next u f t x h]
  funext j
  unfold inF
  by_cases hj : j = t
  · simp [hj]
  · simp [hj]
/-- a space: its record, and its units -/
def SpaceAt (w : World) (G U n : Nat) (left : Int) (log : Value) (u : Nat → Nat) : Prop :=
  Blk w G 81 #[.slice (some ⟨U, 0, none⟩) n n, .int .i64 left, log] ∧ w.rowIs U 5 n (byF u) ∧ U < w.heap.size
theorem all_ok (G U n f t x : Nat) (left : Int) (log : Value) (u : Nat → Nat) (w : World) (h : SpaceAt w G U n left log u) (hf : f < t) (ht : t ≤ n) (hn : n ≤ 4096) (hx : x < 256) (hu : ∀ j, u j < 256) :
    Calls Try.prog 53 #[.pointer (some ⟨G, 0, none⟩), .agg #[.int .i64 f, .int .i64 t], .int .u8 x] w fun e w' => e = .returned (.bool (allU u f x (t - f))) ∧ New w w' := by
  obtain ⟨hG, hU, hUl⟩ := h
  have c0 := hG.cell 0
  simp at c0
  have hbox : Blk (w.alloc (.cells #[.int .i64 f, .int .i64 t] 75)) w.heap.size 75 #[.int .i64 f, .int .i64 t] := Blk.fresh _ _ _
  obtain ⟨d, hd⟩ : ∃ d, t = f + d := ⟨t - f, by omega⟩
  subst hd
  have hd0 : 0 < d := by omega
  have i0 : (0 : Int) ≤ (f : Int) := by omega
  have i1 : (f : Int) ≤ (f : Int) + (d : Int) := by omega
  have i2 : (f : Int) + (d : Int) ≤ (n : Int) := by omega
  have hu0 := Lib.hid hu
  have hU0 := Lib.hid hU
  clear hu hU
  have hGl := hG.lt
  rw [show f + d - f = d by omega]
  obtain ⟨r, hr⟩ : ∃ r, Hid (r = allU u f x d) := ⟨_, (rfl : _ = _)⟩
  rw [← hr.out]
  go_enter Try.func53, Try.ntmps53
  go_wp2
  go_quiet (fail)
  have hN0 : New w ((w.alloc (.cells #[.int .i64 f, .int .i64 ((f + d : Nat) : Int)] 75)).drewN nq) := ((New.refl w).alloc _).drewN _
  go_wp2
  go_loopw [19] (fun k wr => ∃ q : Nat, k = .int .i64 q ∧ q ≤ d ∧ New w wr ∧ Hid (∀ j, j < q → u (f + j) = x)) (fun k _ => d - (intOf k).toNat)
  case atStart => exact ⟨0, rfl, by omega, hN0, fun j hj => absurd hj (Nat.not_lt_zero j)⟩
  case round =>
    obtain ⟨q, rfl, hq, hnw, hall⟩ := hrel
    by_cases hlt : q < d
    · obtain ⟨y, hy⟩ : ∃ y, Hid (y = u (f + q)) := ⟨_, (rfl : _ = _)⟩
      have d0 : wr.cell? ⟨U, f + q, none⟩ = some (.int .u8 (y : Int)) := by
        rw [hy.out]; exact (hnw.cell (p := ⟨U, f + q, none⟩) hUl).trans (hU0.out.cell (by omega))
      have hyl : y < 256 := by rw [hy.out]; exact hu0.out _
      by_cases hxy : (y : Int) = (x : Int)
      · have hs : Hid (∀ j, j < q + 1 → u (f + j) = x) := fun j hj => by
          by_cases hjq : j = q
          · subst hjq; rw [← hy.out]; omega
          · exact hall.out j (by omega)
        go_wp2
        go_roundw
        case rel => exact ⟨q + 1, by go_num, by omega, hnw, hs⟩
        case measure => simp [intOf]; omega
      · have hne : ((y : Int) != (x : Int)) = true := by simp; omega
        have hrf : Hid (r = false) := by rw [hr.out]; exact allU_bad hlt (by rw [← hy.out]; omega)
        go_wp2
        go_ret
        exact ⟨retb (by rw [hrf.out]), hnw⟩
    · have hin : q = d := by omega
      subst hin
      have hrt : Hid (r = true) := by rw [hr.out]; exact allU_true hall.out
      go_wp2
      go_ret
      exact ⟨retb (by rw [hrt.out]), hnw⟩
theorem set_ok (G U n f t x : Nat) (left : Int) (log : Value) (u : Nat → Nat) (w : World) (h : SpaceAt w G U n left log u) (hGU : G ≠ U) (hf : f ≤ t) (ht : t ≤ n) (hn : n ≤ 4096) :
    Calls Try.prog 54 #[.pointer (some ⟨G, 0, none⟩), .agg #[.int .i64 f, .int .i64 t], .int .u8 x] w fun e w' => e = .returned (.tuple #[]) ∧ SpaceAt w' G U n left log (setU u f t x) ∧ w.grownBy w' (some U) := by
  obtain ⟨hG, hU, hUl⟩ := h
  have hbox : Blk (w.alloc (.cells #[.int .i64 f, .int .i64 t] 75)) w.heap.size 75 #[.int .i64 f, .int .i64 t] := Blk.fresh _ _ _
  have hg0 : w.grownBy (w.alloc (.cells #[.int .i64 f, .int .i64 t] 75)) (some U) := World.grownBy_alloc _ _ _
  have hU0 := hU.alloc (.cells #[.int .i64 f, .int .i64 t] 75)
  have hG0 := hG.alloc (.cells #[.int .i64 f, .int .i64 t] 75)
  clear hU hG
  go_enter Try.func54, Try.ntmps54
  go_wp2
  go_loopw [6] (fun k wr => ∃ q : Nat, k = .int .i64 q ∧ f ≤ q ∧ q ≤ t ∧ w.grownBy wr (some U) ∧ Blk wr w.heap.size 75 #[.int .i64 f, .int .i64 t] ∧ Blk wr G 81 #[.slice (some ⟨U, 0, none⟩) n n, .int .i64 left, log] ∧ wr.rowIs U 5 n (byF (setU u f q x))) (fun k _ => t - (intOf k).toNat)
  case atStart => exact ⟨f, rfl, by omega, by omega, hg0, hbox, hG0, by rw [setU_none]; exact hU0⟩
  case round =>
    obtain ⟨q, rfl, hq1, hq2, hg, hb, hG, hU⟩ := hrel
    have c0 := hG.cell 0
    have b1 := hb.cell 1
    simp at c0 b1
    by_cases hlt : q < t
    · have d0 := hU.cell (i := q) (by omega)
      have f0 := hU.frozen q
      have i0 : (0 : Int) ≤ (q : Int) := by omega
      have i1 : (q : Int) < (n : Int) := by omega
      obtain ⟨y, hy⟩ : ∃ y, Hid (y = setU u f q x q) := ⟨_, (rfl : _ = _)⟩
      have d1 : wr.cell? ⟨U, q, none⟩ = some (.int .u8 (y : Int)) := by rw [d0, hy.out]; rfl
      clear d0
      go_wp2
      go_roundw
      case rel =>
        refine ⟨q + 1, by go_num, by omega, by omega, hg.trans (grownBy_set wr U q _), hb.far (by simp; omega) _, hG.far (by simp; omega) _, ?_⟩
        rw [← setU_by u f q x hq1]
        exact hU.set q _
      case measure => simp [intOf]; omega
    · have hin : q = t := by omega
      subst hin
      go_wp2
      exact Great.bodyPost_end0 rfl rfl ⟨rfl, ⟨hG, hU, Nat.lt_of_lt_of_le hUl hg.size⟩, hg⟩
theorem is_ok (S n f t x : Nat) (u : Nat → Nat) (w : World) (hU : w.rowIs S 3 n (inF u)) (hf : f ≤ t) (ht : t ≤ n) (hn : n ≤ 4096) :
    Calls Try.prog 40 #[.slice (some ⟨S, 0, none⟩) n n, .int .i64 f, .int .i64 t, .int .i64 x] w fun e w' => e = .returned (.bool (allU u f x (t - f))) ∧ New w w' := by
  obtain ⟨d, hd⟩ : ∃ d, t = f + d := ⟨t - f, by omega⟩
  subst hd
  rw [show f + d - f = d by omega]
  obtain ⟨r, hr⟩ : ∃ r, Hid (r = allU u f x d) := ⟨_, (rfl : _ = _)⟩
  rw [← hr.out]
  have hU0 := Lib.hid hU
  clear hU
  go_enter Try.func40, Try.ntmps40
  go_wp2
  go_loopw [9] (fun k wr => ∃ q : Nat, k = .int .i64 ((f : Int) + (q : Int)) ∧ q ≤ d ∧ New w wr ∧ Hid (∀ j, j < q → u (f + j) = x)) (fun k _ => f + d - (intOf k).toNat)
  case atStart => exact ⟨0, by simp, by omega, New.refl _, fun j hj => absurd hj (Nat.not_lt_zero j)⟩
  case round =>
    obtain ⟨q, rfl, hq, hnw, hall⟩ := hrel
    by_cases hlt : q < d
    · obtain ⟨y, hy⟩ : ∃ y, Hid (y = u (f + q)) := ⟨_, (rfl : _ = _)⟩
      have d0 : wr.cell? ⟨S, f + q, none⟩ = some (.int .i64 (y : Int)) := by
        rw [hy.out]; exact (hnw.cell (p := ⟨S, f + q, none⟩) hU0.out.lt).trans (hU0.out.cell (by omega))
      have i0 : (0 : Int) ≤ (f : Int) + (q : Int) := by omega
      have i1 : (f : Int) + (q : Int) < (n : Int) := by omega
      have i2 : ((f : Int) + (q : Int)).toNat = f + q := by omega
      by_cases hxy : (y : Int) = (x : Int)
      · have hs : Hid (∀ j, j < q + 1 → u (f + j) = x) := fun j hj => by
          by_cases hjq : j = q
          · subst hjq; rw [← hy.out]; omega
          · exact hall.out j (by omega)
        go_wp2
        go_roundw
        case rel => exact ⟨q + 1, intv (by push_cast; omega), by omega, hnw, hs⟩
        case measure => simp [intOf]; omega
      · have hne : ((y : Int) != (x : Int)) = true := by simp; omega
        have hrf : Hid (r = false) := by rw [hr.out]; exact allU_bad hlt (by rw [← hy.out]; omega)
        go_wp2
        go_ret
        exact ⟨retb (by rw [hrf.out]), hnw⟩
    · have hin : q = d := by omega
      subst hin
      have hrt : Hid (r = true) := by rw [hr.out]; exact allU_true hall.out
      go_wp2
      go_ret
      exact ⟨retb (by rw [hrt.out]), hnw⟩
theorem put_ok (S n f t x : Nat) (u : Nat → Nat) (w : World) (hU : w.rowIs S 3 n (inF u)) (hf : f ≤ t) (ht : t ≤ n) (hn : n ≤ 4096) :
    Calls Try.prog 39 #[.slice (some ⟨S, 0, none⟩) n n, .int .i64 f, .int .i64 t, .int .i64 x] w fun e w' => e = .returned (.tuple #[]) ∧ w'.rowIs S 3 n (inF (setU u f t x)) ∧ w.grownBy w' (some S) := by
  go_enter Try.func39, Try.ntmps39
  go_wp2
  go_loopw [8] (fun k wr => ∃ q : Nat, k = .int .i64 q ∧ f ≤ q ∧ q ≤ t ∧ w.grownBy wr (some S) ∧ wr.rowIs S 3 n (inF (setU u f q x))) (fun k _ => t - (intOf k).toNat)
  case atStart => exact ⟨f, rfl, by omega, by omega, World.grownBy.refl _ _, by rw [setU_none]; exact hU⟩
  case round =>
    obtain ⟨q, rfl, hq1, hq2, hg, hU⟩ := hrel
    by_cases hlt : q < t
    · have d0 := hU.cell (i := q) (by omega)
      have f0 := hU.frozen q
      have i0 : (0 : Int) ≤ (q : Int) := by omega
      have i1 : (q : Int) < (n : Int) := by omega
      obtain ⟨y, hy⟩ : ∃ y, Hid (y = setU u f q x q) := ⟨_, (rfl : _ = _)⟩
      have d1 : wr.cell? ⟨S, q, none⟩ = some (.int .i64 (y : Int)) := by rw [d0, hy.out]; rfl
      clear d0
      go_wp2
      go_roundw
      case rel =>
        refine ⟨q + 1, by go_num, by omega, by omega, hg.trans (grownBy_set wr S q _), ?_⟩
        rw [← setU_in u f q x hq1]
        exact hU.set q _
      case measure => simp [intOf]; omega
    · have hin : q = t := by omega
      subst hin
      go_wp2
      exact Great.bodyPost_end0 rfl rfl ⟨rfl, hU, hg⟩
theorem flag_any (b : Bool) (w : World) : Calls Try.prog 56 #[.bool b] w fun e w' => e = .returned (.int .i64 (if b then 1 else 0 : Nat)) ∧ w = w' := by
  cases b
  · go_enter Try.func56, Try.ntmps56
    go_wp2
    go_ret
    exact ⟨rfl, rfl⟩
  · go_enter Try.func56, Try.ntmps56
    go_wp2
    go_ret
    exact ⟨rfl, rfl⟩
def sizeP (n : Int) : Prop := 1 ≤ n ∧ n ≤ 4096
instance (n : Int) : Decidable (sizeP n) := by unfold sizeP; infer_instance
theorem sized_any (n : Int) (w : World) : Calls Try.prog 37 #[.int .i64 n] w fun e w' => e = .returned (.bool (decide (sizeP n))) ∧ w = w' := by
  go_enter Try.func37, Try.ntmps37
  go_wp2
  all_goals go_ret
  all_goals refine ⟨retb ?_, rfl⟩
  all_goals first
  | (refine (decide_eq_true ?_).symm; unfold sizeP; omega)
  | (refine (decide_eq_false ?_).symm; unfold sizeP; omega)
  | (refine decide_eq_decide.2 ?_; unfold sizeP; omega)
def oneP (f t : Int) : Prop := 0 ≤ f ∧ f < t ∧ t ≤ 1048576
instance (f t : Int) : Decidable (oneP f t) := by unfold oneP; infer_instance
theorem RangeMay_any (f t : Int) (w : World) :
    Calls Try.prog 55 #[.agg #[.int .i64 f, .int .i64 t]] w fun e w' => e = .returned (.bool (decide (oneP f t))) ∧ New w w' := by
  go_enter Try.func55, Try.ntmps55
  go_wp2
  all_goals go_ret
  all_goals refine ⟨retb ?_, (New.refl _).alloc _⟩
  all_goals first
  | (refine (decide_eq_true ?_).symm; unfold oneP; omega)
  | (refine (decide_eq_false ?_).symm; unfold oneP; omega)
  | (refine decide_eq_decide.2 ?_; unfold oneP; omega)
end Go.Proofs.Ythjjchlibbheaaa.space
