/-
  Contracts of label.May and of the reference's LabelMay.
-/
import Derived.Test.YthkgcbjfgglciaaProg
import Derived.Test.YthkgcbjfgglciaaQuiet
namespace Go.Proofs.Ythkgcbjfgglciaa.label
open Go.ChangeShapes Go.WideShapes Go.ChangeAt Go.RowKit Go.Proofs.Ythkgcbjfgglciaa.kit

theorem in_any (n lo hi : Int) (w : World) :
    Calls Try.prog 68 #[.int .i64 n, .int .i64 lo, .int .i64 hi] w fun e w' => e = .returned (.bool (decide (lo ≤ n ∧ n ≤ hi))) ∧ w = w' := by
  go_enter Try.func68, Try.ntmps68
  go_wp2
  all_goals go_ret
  all_goals refine ⟨retb ?_, rfl⟩
  all_goals first
  | (refine (decide_eq_true ?_).symm; omega)
  | (refine (decide_eq_false ?_).symm; omega)
  | (refine decide_eq_decide.2 ?_; omega)
  | (rw [Bool.eq_iff_iff]; simp; omega)
/-- what a label may be: pool, drive, drives, parity, time; root's address, count, bytes, birth -/
def okP (pool drive drives parity time addr count bytes birth : Int) : Prop :=
  (1 ≤ pool ∧ pool ≤ 1048576) ∧ (2 ≤ drives ∧ drives ≤ 8) ∧ (0 ≤ drive ∧ drive < drives) ∧ (1 ≤ parity ∧ parity ≤ 3 ∧ parity < drives) ∧ (0 ≤ time ∧ time ≤ 1048576) ∧
    (0 ≤ addr ∧ addr ≤ 65536) ∧ (0 ≤ count ∧ count ≤ 32) ∧ (0 ≤ bytes ∧ bytes ≤ 128 * count) ∧ 0 ≤ birth ∧ birth ≤ time
instance (pool drive drives parity time addr count bytes birth : Int) : Decidable (okP pool drive drives parity time addr count bytes birth) := by unfold okP; infer_instance
abbrev lab (pool drive drives parity time addr count bytes birth a b c d : Int) : Value :=
  .agg #[.int .i64 pool, .int .i64 drive, .int .i64 drives, .int .i64 parity, .int .i64 time, .int .i64 addr, .int .i64 count, .int .i64 bytes, .int .i64 birth, .int .i64 a, .int .i64 b, .int .i64 c, .int .i64 d]
set_option maxHeartbeats 1000000 in
theorem May_any (pool drive drives parity time addr count bytes birth a b c d : Int) (w : World) :
    Calls Try.prog 51 #[lab pool drive drives parity time addr count bytes birth a b c d] w fun e w' => e = .returned (.bool (decide (okP pool drive drives parity time addr count bytes birth))) ∧ New w w' := by
  go_enter Try.func51, Try.ntmps51
  go_wp2_with (first | (go_at_call 68; refine (in_any _ _ _ _).mono ?_; rintro e w' ⟨rfl, rfl⟩))
  all_goals go_ret
  all_goals refine ⟨retb ?_, ((New.refl _).alloc _).alloc _⟩
  all_goals first
  | (refine (decide_eq_true ?_).symm; unfold okP; omega)
  | (refine (decide_eq_false ?_).symm; unfold okP; omega)
  | (refine decide_eq_decide.2 ?_; unfold okP; omega)
  | (rw [Bool.eq_iff_iff, Bool.and_eq_true, decide_eq_true_eq, decide_eq_true_eq, decide_eq_true_eq]; unfold okP; omega)
set_option maxHeartbeats 1000000 in
theorem LabelMay_any (pool drive drives parity time addr count bytes birth a b c d : Int) (w : World) :
    Calls Try.prog 56 #[lab pool drive drives parity time addr count bytes birth a b c d] w fun e w' => e = .returned (.bool (decide (okP pool drive drives parity time addr count bytes birth))) ∧ New w w' := by
  go_enter Try.func56, Try.ntmps56
  go_wp2
  all_goals go_ret
  all_goals refine ⟨retb ?_, (by first | exact ((New.refl _).alloc _).alloc _ | exact (New.refl _).alloc _)⟩
  all_goals first
  | (refine (decide_eq_true ?_).symm; unfold okP; omega)
  | (refine (decide_eq_false ?_).symm; unfold okP; omega)
  | (refine decide_eq_decide.2 ?_; unfold okP; omega)
  | (rw [Bool.eq_iff_iff, Bool.and_eq_true, decide_eq_true_eq, decide_eq_true_eq, decide_eq_true_eq]; unfold okP; omega)
end Go.Proofs.Ythkgcbjfgglciaa.label
