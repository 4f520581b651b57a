/-
  Contract of (*keeper).move.
-/
import Derived.Test.YtiffgeglbafenaaSnapDropAll
namespace Go.Proofs.Ytiffgeglbafenaa.snap
open Go.ChangeShapes Go.WideShapes Go.ChangeAt Go.RowKit Go.Proofs.Ytiffgeglbafenaa.kit Go.Deep
set_option linter.unusedVariables false
set_option maxRecDepth 100000
/-- the state ahead of a move: the moment has passed -/
abbrev KS.tick (s : KS) : KS := { s with now := s.now + 1 }
theorem dead_len {s : KS} (h : Inv s) {i : Nat} (hi : i < s.m) : (s.dead i).length ≤ 200 :=
  Nat.le_trans (nodup_le (h.dn i hi) fun x hx => (h.dd i x hi hx).1) h.n200
theorem Kill_any (base kb : Nat) (s : KS) (b : Int) (bv sv : Value) (dv : Nat → Value) (w : World) (hI : Inv s) (hK : Km base kb s.tick bv sv dv w) (hbase : base ≤ w.heap.size) :
    Calls Try.prog 18 #[ptr kb, .int .i64 b] w (MoveP base kb s (nextK s 2 b) (codeK s 2 b) (goneP s 2 b) bv sv dv w) := by
  by_cases h : 0 ≤ b ∧ b < s.n ∧ s.lives b.toNat = true
  · have hc : codeK s 2 b = 0 := by simp [codeK, h]
    have hv : b.toNat < s.n := by omega
    obtain ⟨v, rfl⟩ : ∃ v : Nat, b = v := ⟨b.toNat, by omega⟩
    simp only [Int.toNat_natCast] at h hv
    by_cases hl : loose s v = true
    · have e1 : nextK s 2 (v : Int) = { s.tick with lives := upd s.lives v false } := by simp [nextK, hc, hl]
      have e2 : goneP s 2 (v : Int) = [v] := by simp [goneP, hc, hl]
      rw [hc, e1, e2]
      refine kill_loose base kb s.tick v bv sv dv w hK hI.n200 hI.m9 hv h.2.2 ?_ hbase
      unfold loose at hl
      rw [Bool.or_eq_true, decide_eq_true_eq, decide_eq_true_eq] at hl
      exact hl
    · have hlf : loose s v = false := by simpa using hl
      have e1 : nextK s 2 (v : Int) = { s.tick with lives := upd s.lives v false, dead := upd s.dead (s.m - 1) (s.dead (s.m - 1) ++ [v]) } := by simp [nextK, hc, hlf]
      have e2 : goneP s 2 (v : Int) = [] := by simp [goneP, hc, hlf]
      unfold loose at hlf
      rw [Bool.or_eq_false_iff, decide_eq_false_iff_not, decide_eq_false_iff_not] at hlf
      rw [hc, e1, e2]
      exact kill_dies base kb s.tick v (s.m - 1) bv sv dv w hK hI.n200 hI.m9 hv h.2.2 (by show s.m = _; omega) hlf.2 (dead_len hI (by omega)) hbase
  · have hc : codeK s 2 b = 6 := by simp [codeK, h]
    have e1 : nextK s 2 b = s.tick := by simp [nextK, hc]
    have e2 : goneP s 2 b = [] := by simp [goneP, hc]
    rw [hc, e1, e2]
    exact kill_no base kb s.tick b bv sv dv w hK hI.n200 h
theorem Drop_any (base kb : Nat) (s : KS) (z : Int) (bv sv : Value) (dv : Nat → Value) (w : World) (hI : Inv s) (hK : Km base kb s.tick bv sv dv w) (hbase : base ≤ w.heap.size) :
    Calls Try.prog 19 #[ptr kb, .int .i64 z] w (MoveP base kb s (nextK s 4 z) (codeK s 4 z) (goneP s 4 z) bv sv dv w) := by
  cases hf : find s.num z s.m with
  | none =>
    have hc : codeK s 4 z = 6 := by simp [codeK, hf]
    have e1 : nextK s 4 z = s.tick := by simp [nextK, hc]
    have e2 : goneP s 4 z = [] := by simp [goneP, hc]
    rw [hc, e1, e2]
    exact drop_none base kb s.tick z bv sv dv w hK hI.m9 hf
  | some i =>
    have hc : codeK s 4 z = 0 := by simp [codeK, hf]
    have him := (find_some hf).1
    have e1 : nextK s 4 z = { s.tick with m := s.m - 1, num := cutAt s.num i, made := cutAt s.made i, lst := cutAt s.lst i, dead := cutAt (dAt s.tick i (s.dead i)) i } := by simp [nextK, hc, hf, dAt]; rfl
    have e2 : goneP s 4 z = (List.range s.n).filter fun b => (s.dead i).contains b && goes s.tick i b := by simp [goneP, hc, hf]; rfl
    rw [hc, e1, e2]
    refine drop_some base kb i s.tick z bv sv dv w hK hI.n200 hI.m9 hf (fun b hb => (hI.dd i b him hb).1) (hI.dn i him) (fun j hj => ?_) hbase
    have h1 : (s.dead i).length ≤ 200 := dead_len hI him
    have h2 : (s.dead j).length ≤ 200 := dead_len hI hj
    show (dAt s.tick i (s.dead i) j).length ≤ 400
    unfold dAt
    split
    · show (s.dead j).length ≤ 400
      omega
    · by_cases e : j = i - 1
      · subst e
        rw [upd_same, List.length_append]
        have h3 := List.length_filter_le (fun b => !goes s.tick i b) (s.dead i)
        show (s.dead (i - 1)).length + _ ≤ 400
        omega
      · rw [upd_ne _ _ e]
        show (s.dead j).length ≤ 400
        omega
end Go.Proofs.Ytiffgeglbafenaa.snap
