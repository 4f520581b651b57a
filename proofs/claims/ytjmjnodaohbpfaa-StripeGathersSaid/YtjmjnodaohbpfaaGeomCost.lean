/-
  Contracts of geom.Cost, of the reference's GeomCost, and of what they call. 
-/
import Derived.Test.YtjmjnodaohbpfaaProg
import Derived.Test.YtjmjnodaohbpfaaGeomPlain
import Derived.Test.YtjmjnodaohbpfaaKit
namespace Go.Proofs.Ytjmjnodaohbpfaa.geom
open Go.ChangeShapes Go.WideShapes Go.ChangeAt Go.RowKit Go.Proofs.Ytjmjnodaohbpfaa.kit

theorem counted_any (c : Int) (w : World) :
    Calls Try.prog 65 #[.int .i64 c] w fun e w' => e = .returned (.bool (decide (cntP c))) ∧ w = w' := by
  go_enter Try.func65, Try.ntmps65
  go_wp2
  all_goals go_ret
  all_goals refine ⟨retb ?_, rfl⟩
  all_goals first
  | (refine (decide_eq_true ?_).symm; unfold cntP; omega)
  | (refine (decide_eq_false ?_).symm; unfold cntP; omega)
  | (refine decide_eq_decide.2 ?_; unfold cntP; omega)
theorem addressed_any (a : Int) (w : World) :
    Calls Try.prog 66 #[.int .i64 a] w fun e w' => e = .returned (.bool (decide (adrP a))) ∧ w = w' := by
  go_enter Try.func66, Try.ntmps66
  go_wp2
  all_goals go_ret
  all_goals refine ⟨retb ?_, rfl⟩
  all_goals first
  | (refine (decide_eq_true ?_).symm; unfold adrP; omega)
  | (refine (decide_eq_false ?_).symm; unfold adrP; omega)
  | (refine decide_eq_decide.2 ?_; unfold adrP; omega)
theorem may_any (d p : Int) (w : World) :
    Calls Try.prog 64 #[.agg #[.int .i64 d, .int .i64 p]] w fun e w' => e = .returned (.bool (decide (mayP d p))) ∧ New w w' := by
  go_enter Try.func64, Try.ntmps64
  go_wp2
  all_goals go_ret
  all_goals refine ⟨retb ?_, (New.refl _).alloc _⟩
  all_goals first
  | (refine (decide_eq_true ?_).symm; unfold mayP; omega)
  | (refine (decide_eq_false ?_).symm; unfold mayP; omega)
  | (refine decide_eq_decide.2 ?_; unfold mayP; omega)
theorem badShape_any (d p : Int) (w : World) :
    Calls Try.prog 55 #[.int .i64 d, .int .i64 p] w fun e w' => e = .returned (.bool (!decide (mayP d p))) ∧ w = w' := by
  by_cases h : mayP d p
  · rw [decide_eq_true h]
    obtain ⟨m1, m2, m3, m4, m5⟩ := h
    go_enter Try.func55, Try.ntmps55
    go_wp2
    go_ret
    refine ⟨retb ?_, rfl⟩
    simp; omega
  · rw [decide_eq_false h]
    unfold mayP at h
    go_enter Try.func55, Try.ntmps55
    go_wp2
    all_goals go_ret
    all_goals refine ⟨retb ?_, rfl⟩
    all_goals first | rfl | (simp; omega)
end Go.Proofs.Ytjmjnodaohbpfaa.geom
