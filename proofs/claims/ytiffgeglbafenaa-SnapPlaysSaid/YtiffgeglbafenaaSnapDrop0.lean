/-
  Contract of (*keeper).drop: no such snapshot.
-/
import Derived.Test.YtiffgeglbafenaaSnapDies
import Derived.Test.YtiffgeglbafenaaSnapIndex
namespace Go.Proofs.Ytiffgeglbafenaa.snap
open Go.ChangeShapes Go.WideShapes Go.ChangeAt Go.RowKit Go.Proofs.Ytiffgeglbafenaa.kit Go.Deep
set_option linter.unusedVariables false
set_option maxRecDepth 100000
theorem drop_mem {w : World} {z : Int} : ∃ W1, W1 = (w.alloc (.cells #[.int .i64 z] 3)).alloc (.cells #[.int .i64 0, .slice none 0 0] 35) ∧ New w W1 ∧ Hid (Blk W1 (w.heap.size + 1) 35 #[.int .i64 0, .slice none 0 0]) ∧ W1.heap.size = w.heap.size + 2 ∧ W1.cell? ⟨w.heap.size, 0, none⟩ = some (.int .i64 z) := by
  have hb : Blk ((w.alloc (.cells #[.int .i64 z] 3)).alloc (.cells #[.int .i64 0, .slice none 0 0] 35)) w.heap.size 3 #[.int .i64 z] := (Blk.fresh w _ _).alloc _
  have hg := Blk.fresh (w.alloc (.cells #[.int .i64 z] 3)) 35 #[.int .i64 0, .slice none 0 0]
  exact ⟨_, rfl, ((New.refl w).alloc _).alloc _, Lib.hid (by simpa using hg), by simp, by rw [hb.cell 0]; rfl⟩
theorem drop_none (base kb : Nat) (s : KS) (z : Int) (bv sv : Value) (dv : Nat → Value) (w : World) (hK : Km base kb s bv sv dv w) (hm9 : s.m ≤ 9) (h : find s.num z s.m = none) :
    Calls Try.prog 19 #[ptr kb, .int .i64 z] w (MoveP base kb s s 6 [] bv sv dv w) := by
  obtain ⟨W1, hW1, hN1, hr, hz, hcz⟩ := drop_mem (w := w) (z := z)
  have hK1 := hK.new hN1
  have k2 := hK1.kbk.cell 2
  simp at k2
  obtain ⟨B, d, rfl, _, hdm, hB, hcell⟩ := own_open hK1.so
  have hidx := Lib.hid (Index_any B s.m d s.num s.made dv w.heap.size z W1 hm9 (fun h0 => by obtain ⟨g, h1, _, h2⟩ := hB h0; exact ⟨g, h1, h2⟩) hcell hcz)
  rw [h] at hidx
  have hkh := Lib.hid hK
  have hnh := Lib.hid hN1
  clear hK hN1 hK1 hB hcell
  go_enter Try.func19, Try.ntmps19
  go_upto_region 1 with fail
  rw [← hW1]
  clear hW1
  go_wp2_with fail
  refine hidx.out.mono ?_
  rintro e w2 ⟨rfl, hn2⟩
  have hn2' := Lib.hid hn2
  dsimp only [idxI]
  go_wp2_with (go_at_call 17; refine (no_any 6 _).mono ?_; rintro e w3 ⟨rfl, hn3⟩; obtain ⟨r0, r1, y0, y1, hx⟩ := gone_cells ((hr.out.new hn2'.out).new hn3))
  exact bodyPost_ret (v := .agg #[.int .i64 6, .slice none 0 0]) (by simp [results, Try.results19, go_sem, (hx.out _ _).1, (hx.out _ _).2]) rfl (MoveP.same hkh.out (((hnh.out.next (hn2'.out.next hn3)).set (Nat.le_succ _) _).set (Nat.le_succ _) _) rfl)
end Go.Proofs.Ytiffgeglbafenaa.snap
