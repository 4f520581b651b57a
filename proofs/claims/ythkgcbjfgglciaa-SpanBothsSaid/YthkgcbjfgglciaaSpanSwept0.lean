/-
  Contract of span.swept without an edge.
-/
import Derived.Test.YthkgcbjfgglciaaSpanSort
namespace Go.Proofs.Ythkgcbjfgglciaa.spans
open Go.ChangeShapes Go.WideShapes Go.ChangeAt Go.RowKit Go.Proofs.Ythkgcbjfgglciaa.kit Go.Proofs.Ythkgcbjfgglciaa.span Go.Deep
set_option linter.unusedVariables false
theorem swept_none (A : Option Addr) (c kf : Nat) (w : World) :
    Calls Try.prog 41 #[.slice A 0 c, .func (.func kf) #[] #[]] w fun e w' => e = .returned (.slice none 0 0) ∧ New w w' := by
  have hbox := Blk.fresh w 60 #[.slice A 0 c]
  go_enter Try.func41, Try.ntmps41
  go_wp2_with fail
  refine (sort_none A c _ _ _ _).mono ?_
  rintro e w1 ⟨rfl, hn1⟩
  have cb := (hbox.new hn1).cell 0
  simp at cb
  have hN := Lib.hid (New.of_alloc hn1)
  clear hn1
  go_wp2
  go_loop [8, 5] (fun a o => a = .int .i64 0 ∧ o = .slice none 0 0) (fun _ _ => 0)
  case atStart => exact ⟨rfl, rfl⟩
  case round =>
    obtain ⟨rfl, rfl⟩ := hrel
    go_wp2
    go_ret
    exact ⟨rfl, hN.out⟩
end Go.Proofs.Ythkgcbjfgglciaa.spans
