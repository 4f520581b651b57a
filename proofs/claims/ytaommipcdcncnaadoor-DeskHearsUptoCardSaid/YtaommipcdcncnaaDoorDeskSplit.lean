/-
  The library's Split at a blank.
-/
import Derived.Test.YtaommipcdcncnaaDoorDeskCut
import Derived.Test.YtaommipcdcncnaaDoorDeskShelf2
import Derived.Test.YtaommipcdcncnaaDoorDeskPieces
namespace Go.Proofs.YtaommipcdcncnaaDoor.desk
open Go.ChangeShapes Go.WideShapes Go.ChangeAt Go.RowKit Go.Proofs.YtaommipcdcncnaaDoor.kit Go.Deep
set_option linter.unusedVariables false
set_option maxRecDepth 100000
/-- the library's greatest length is a number -/
def MaxIs (w : World) : Prop := ∃ m, w.cell? ⟨2, 0, none⟩ = some (.int .i64 m)
theorem MaxIs.new {w w' : World} (h : MaxIs w) (hn : New w w') : MaxIs w' := by
  obtain ⟨m, hm⟩ := h
  exact ⟨m, (hn.cell (lt_of_cell hm)).trans hm⟩
theorem split_any (s : Tx) (hs : s.length ≤ 1048576) (w : World) (hM : MaxIs w) :
    Calls Tryd.prog 28 #[encStr s, .string ⟨#[32]⟩] w fun e w' => e = .returned (.slice (some ⟨w.heap.size, 0, none⟩) (cutT s).length (cutT s).length) ∧ Blk w' w.heap.size 9 ((cutT s).map encStr).toArray ∧ New w w' := by
  obtain ⟨m, hm⟩ := hM
  refine (sh_strings_Split ⟨s.toArray⟩ ⟨#[32]⟩ m w (by show s.toArray.size < _; simp; omega) hm (by decide)).mono fun e w' ⟨h1, h2⟩ => ?_
  have hc : (Lib.splitB ⟨#[32]⟩ 0 (Lib.countB ⟨s.toArray⟩ ⟨#[32]⟩) ⟨s.toArray⟩).map Value.string = (cutT s).map encStr := by
    rw [← splitB_cut, List.map_map]
    apply List.map_congr_left
    intro b _
    simp [encStr]
  have hl : Lib.countB ⟨s.toArray⟩ ⟨#[32]⟩ + 1 = (cutT s).length := (cut_len s).symm
  rw [hl] at h1
  rw [hc] at h2
  subst h2
  exact ⟨h1, Blk.fresh _ _ _, (New.refl w).alloc _⟩
end Go.Proofs.YtaommipcdcncnaaDoor.desk
