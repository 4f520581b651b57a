/-
  The walk of the law LabelMays.
-/
import Derived.Test.YtpknpmmcploacaaRows
import Derived.Test.YtpknpmmcploacaaLabelMay
import Derived.Test.YtpknpmmcploacaaLabelOpen
namespace Go.Proofs.Ytpknpmmcploacaa.labelMays
open Go.ChangeShapes Go.WideShapes Go.ChangeAt Go.RowKit Go.Proofs.Ytpknpmmcploacaa.kit Go.Proofs.Ytpknpmmcploacaa.label
set_option linter.unusedVariables false
theorem core (pool drive drives parity time addr count bytes birth a b c d : Int) (w : World) : Calls Try.prog 14 #[lab pool drive drives parity time addr count bytes birth a b c d] w fun e w' => e = .returned (.bool true) ∧ New w w' := by
  go_enter Try.func14, Try.ntmps14
  go_wp2
  obtain ⟨W1, hW1⟩ : ∃ W1, W1 = w.alloc (.cells #[.int .i64 pool, .int .i64 drive, .int .i64 drives, .int .i64 parity, .int .i64 time, .int .i64 addr, .int .i64 count, .int .i64 bytes, .int .i64 birth, .int .i64 a, .int .i64 b, .int .i64 c, .int .i64 d] 60) := ⟨_, rfl⟩
  have hN : Hid (New w W1) := by rw [hW1]; exact (New.refl _).alloc _
  have f0 := NewW.keep (w := W1) (a := ⟨w.heap.size, 0, none⟩) (v := .int .i64 pool) (by rw [hW1]; simp)
  have f1 := NewW.keep (w := W1) (a := ⟨w.heap.size, 1, none⟩) (v := .int .i64 drive) (by rw [hW1]; simp)
  have f2 := NewW.keep (w := W1) (a := ⟨w.heap.size, 2, none⟩) (v := .int .i64 drives) (by rw [hW1]; simp)
  have f3 := NewW.keep (w := W1) (a := ⟨w.heap.size, 3, none⟩) (v := .int .i64 parity) (by rw [hW1]; simp)
  have f4 := NewW.keep (w := W1) (a := ⟨w.heap.size, 4, none⟩) (v := .int .i64 time) (by rw [hW1]; simp)
  have f5 := NewW.keep (w := W1) (a := ⟨w.heap.size, 5, none⟩) (v := .int .i64 addr) (by rw [hW1]; simp)
  have f6 := NewW.keep (w := W1) (a := ⟨w.heap.size, 6, none⟩) (v := .int .i64 count) (by rw [hW1]; simp)
  have f7 := NewW.keep (w := W1) (a := ⟨w.heap.size, 7, none⟩) (v := .int .i64 bytes) (by rw [hW1]; simp)
  have f8 := NewW.keep (w := W1) (a := ⟨w.heap.size, 8, none⟩) (v := .int .i64 birth) (by rw [hW1]; simp)
  have f9 := NewW.keep (w := W1) (a := ⟨w.heap.size, 9, none⟩) (v := .int .i64 a) (by rw [hW1]; simp)
  have f10 := NewW.keep (w := W1) (a := ⟨w.heap.size, 10, none⟩) (v := .int .i64 b) (by rw [hW1]; simp)
  have f11 := NewW.keep (w := W1) (a := ⟨w.heap.size, 11, none⟩) (v := .int .i64 c) (by rw [hW1]; simp)
  have f12 := NewW.keep (w := W1) (a := ⟨w.heap.size, 12, none⟩) (v := .int .i64 d) (by rw [hW1]; simp)
  rw [← hW1]
  clear hW1
  (refine wp_region_quiet_new (by kernel_rfl) (by kernel_rfl) ?_; (repeat (first | go_big_quiet_step (first | (go_at_call 37; exact NewW.call _ (May_any _ _ _ _ _ _ _ _ _ _ _ _ _ _)) | (go_at_call 38; exact NewW.call _ (LabelMay_any _ _ _ _ _ _ _ _ _ _ _ _ _ _))) | quiet_step (first | (go_at_call 37; exact NewW.call _ (May_any _ _ _ _ _ _ _ _ _ _ _ _ _ _)) | (go_at_call 38; exact NewW.call _ (LabelMay_any _ _ _ _ _ _ _ _ _ _ _ _ _ _))))); refine wpQuiet_nil ?_; rintro w' ⟨⟨W2, hn_W2⟩, rfl⟩)
  go_wp2
  go_ret
  exact ⟨by simp, hN.out.next hn_W2⟩
set_option maxRecDepth 100000 in
theorem walk {H : Type} (enc : TypeId × Value → H) (W : World) {base : Nat} {v0 : Value} {d0 : DataW H} {p0 : List MemPlace} (ok0 : Value.okWide Try.prog W .any base 60 v0) (h0 : DataW.Trod enc Try.prog W 0 (fun _ => true) true 60 v0 d0 p0)
    (hsz : (DataW.weightsEach Try.prog (Try.f14.params.toList ++ Rows.labelMaysSpec.plain.varTypes Try.prog) ([d0] ++ [])).all (· ≤ reachBytes) = true) :
    Calls Try.prog 14 #[v0] W fun e W' => e = .returned (.bool true) ∧ Below W.heap.size W W' := by
  obtain ⟨pool, drive, drives, parity, time, addr, count, bytes, birth, a, b, c, d, rfl, _⟩ := open_label ok0 h0
  exact core pool drive drives parity time addr count bytes birth a b c d W
end Go.Proofs.Ytpknpmmcploacaa.labelMays
