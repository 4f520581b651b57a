/-
  Contract of (*keeper).move, out of its ways. (under way)
-/
import Derived.Test.YtiffgeglbafenaaSnapMove
namespace Go.Proofs.Ytiffgeglbafenaa.snap
open Go.ChangeShapes Go.WideShapes Go.ChangeAt Go.RowKit Go.Proofs.Ytiffgeglbafenaa.kit Go.Deep
set_option linter.unusedVariables false
set_option maxRecDepth 100000
section
variable {base kb : Nat} {s s' : KS} {cd : Int} {l : List Nat} {bv sv r : Value} {dv : Nat → Value} {w W1 w' : World}
/-- what a callee has answered, seen from ahead of the blocks that its caller made -/
theorem MoveP.lift (h : MoveP base kb s s' cd l bv sv dv W1 (.returned r) w') (hlt : ∀ g, KK kb s.m bv sv dv g → g < w.heap.size) (hn : New w W1) (hz : W1.heap.size = w.heap.size + 2) (a u : Value) :
    MoveP base kb s s' cd l bv sv dv w (.returned r) ((w'.setCell ⟨w.heap.size + 1, 0, none⟩ a).setCell ⟨w.heap.size + 1, 1, none⟩ u) := by
  obtain ⟨bv', sv', dv', v, he, hk, ha, ho, hkk⟩ := h
  have hp : ∀ g, KK kb s'.m bv' sv' dv' g → g ≠ w.heap.size + 1 := fun g hg e => by
    rcases (hkk g hg).1 with h1 | h1
    · have := hlt g h1
      omega
    · omega
  refine ⟨bv', sv', dv', v, he, hk.alt (alt_gone _ _ _ _) fun g hg e => hp g hg e, ((Alt.of_new hn).trans ha).trans' (alt_gone _ _ _ _) fun i hi => .inr (by omega), (alt_gone _ _ _ _).own (own_mono ho (by omega)) fun g hg e => ?_, fun g hg => ⟨?_, (hkk g hg).2⟩⟩
  · have := (ho.lt g hg).1
    omega
  · rcases (hkk g hg).1 with h1 | h1
    · exact .inl h1
    · exact .inr (by omega)
theorem MoveP.res (h : MoveP base kb s s' cd l bv sv dv W1 (.returned r) w') (hlt : ∀ g, KK kb s.m bv sv dv g → g < w.heap.size) {p : Nat} {t : TypeId} {cs : Array Value} (hb : Blk W1 p t cs) (hp : w.heap.size ≤ p) : Blk w' p t cs := by
  obtain ⟨bv', sv', dv', v, he, hk, ha, ho, hkk⟩ := h
  exact ha.blk hb fun hg => by have := hlt p hg; omega
theorem MoveP.form {e : Ending} (h : MoveP base kb s s' cd l bv sv dv W1 e w') : ∃ A n c, e = .returned (.agg #[.int .i64 cd, .slice A n c]) := by
  obtain ⟨bv', sv', dv', v, he, hk, ha, ho, hkk⟩ := h
  obtain ⟨A, c, rfl, _⟩ := own_open ho
  exact ⟨A, _, c, he⟩
end
theorem move_mem {w : World} {k z : Int} : ∃ W1, W1 = (w.alloc (.cells #[.int .i64 k, .int .i64 z] 54)).alloc (.cells #[.int .i64 0, .slice none 0 0] 35) ∧ New w W1 ∧ Hid (Blk W1 (w.heap.size + 1) 35 #[.int .i64 0, .slice none 0 0]) ∧ W1.heap.size = w.heap.size + 2 ∧ W1.cell? ⟨w.heap.size, 0, none⟩ = some (.int .i64 k) ∧ W1.cell? ⟨w.heap.size, 1, none⟩ = some (.int .i64 z) := by
  have hb : Blk ((w.alloc (.cells #[.int .i64 k, .int .i64 z] 54)).alloc (.cells #[.int .i64 0, .slice none 0 0] 35)) w.heap.size 54 #[.int .i64 k, .int .i64 z] := (Blk.fresh w _ _).alloc _
  have hg := Blk.fresh (w.alloc (.cells #[.int .i64 k, .int .i64 z] 54)) 35 #[.int .i64 0, .slice none 0 0]
  exact ⟨_, rfl, ((New.refl w).alloc _).alloc _, Lib.hid (by simpa using hg), by simp, by rw [hb.cell 0]; rfl, by rw [hb.cell 1]; rfl⟩
theorem move_kill (base kb : Nat) (s : KS) (z : Int) (bv sv : Value) (dv : Nat → Value) (w : World) (hI : Inv s) (hK : Km base kb s.tick bv sv dv w) (hbase : base ≤ w.heap.size) :
    Calls Try.prog 13 #[ptr kb, .agg #[.int .i64 2, .int .i64 z]] w (MoveP base kb s (nextK s 2 z) (codeK s 2 z) (goneP s 2 z) bv sv dv w) := by
  obtain ⟨W1, hW1, hN1, hr, hz, c0, c1⟩ := move_mem (w := w) (k := 2) (z := z)
  have hcall := Lib.hid (Kill_any base kb s z bv sv dv W1 hI (hK.new hN1) (by omega))
  have hlt : Hid (∀ g, KK kb s.m bv sv dv g → g < w.heap.size) := fun g hg => (hK.lt hg).2
  have hNH := Lib.hid hN1
  clear hK hN1
  go_enter Try.func13, Try.ntmps13
  go_upto_region 1 with fail
  rw [← hW1]
  clear hW1
  go_wp2_with fail
  refine hcall.out.mono ?_
  rintro e w2 hM
  obtain ⟨A, n, c, rfl⟩ := hM.form
  obtain ⟨r0, r1, y0, y1, hx⟩ := gone_cells (hM.res hlt.out hr.out (Nat.le_succ _))
  have hMH := Lib.hid hM
  clear hM
  show _
  dsimp only
  go_wp2
  exact bodyPost_ret (v := .agg #[.int .i64 (codeK s 2 z), .slice A n c]) (by simp [results, Try.results13, go_sem, (hx.out _ _).1, (hx.out _ _).2]) rfl (hMH.out.lift hlt.out hNH.out hz _ _)
theorem move_drop (base kb : Nat) (s : KS) (z : Int) (bv sv : Value) (dv : Nat → Value) (w : World) (hI : Inv s) (hK : Km base kb s.tick bv sv dv w) (hbase : base ≤ w.heap.size) :
    Calls Try.prog 13 #[ptr kb, .agg #[.int .i64 4, .int .i64 z]] w (MoveP base kb s (nextK s 4 z) (codeK s 4 z) (goneP s 4 z) bv sv dv w) := by
  obtain ⟨W1, hW1, hN1, hr, hz, c0, c1⟩ := move_mem (w := w) (k := 4) (z := z)
  have hcall := Lib.hid (Drop_any base kb s z bv sv dv W1 hI (hK.new hN1) (by omega))
  have hlt : Hid (∀ g, KK kb s.m bv sv dv g → g < w.heap.size) := fun g hg => (hK.lt hg).2
  have hNH := Lib.hid hN1
  clear hK hN1
  go_enter Try.func13, Try.ntmps13
  go_upto_region 1 with fail
  rw [← hW1]
  clear hW1
  go_wp2_with fail
  refine hcall.out.mono ?_
  rintro e w2 hM
  obtain ⟨A, n, c, rfl⟩ := hM.form
  obtain ⟨r0, r1, y0, y1, hx⟩ := gone_cells (hM.res hlt.out hr.out (Nat.le_succ _))
  have hMH := Lib.hid hM
  clear hM
  show _
  dsimp only
  go_wp2
  exact bodyPost_ret (v := .agg #[.int .i64 (codeK s 4 z), .slice A n c]) (by simp [results, Try.results13, go_sem, (hx.out _ _).1, (hx.out _ _).2]) rfl (hMH.out.lift hlt.out hNH.out hz _ _)
theorem move_other (base kb : Nat) (s : KS) (k z : Int) (bv sv : Value) (dv : Nat → Value) (w : World) (hK : Km base kb s.tick bv sv dv w) (h1 : k ≠ 1) (h2 : k ≠ 2) (h3 : k ≠ 3) (h4 : k ≠ 4) :
    Calls Try.prog 13 #[ptr kb, .agg #[.int .i64 k, .int .i64 z]] w (MoveP base kb s (nextK s k z) (codeK s k z) (goneP s k z) bv sv dv w) := by
  have hc : codeK s k z = 3 := by simp [codeK, h1, h2, h3, h4]
  have e1 : nextK s k z = s.tick := by simp [nextK, hc]
  have e2 : goneP s k z = [] := by simp [goneP, hc]
  rw [hc, e1, e2]
  clear hc e1 e2
  obtain ⟨W1, hW1, hN1, hr, hz, c0, c1⟩ := move_mem (w := w) (k := k) (z := z)
  have hkh := Lib.hid hK
  have hNH := Lib.hid hN1
  clear hK hN1
  go_enter Try.func13, Try.ntmps13
  go_upto_region 1 with fail
  rw [← hW1]
  clear hW1
  go_wp2_with (go_at_call 17; refine (no_any 3 _).mono ?_; rintro e w2 ⟨rfl, hn2⟩; have hn2H := Lib.hid hn2; obtain ⟨r0, r1, y0, y1, hx⟩ := gone_cells (hr.out.new hn2))
  exact bodyPost_ret (v := .agg #[.int .i64 3, .slice none 0 0]) (by simp [results, Try.results13, go_sem, (hx.out _ _).1, (hx.out _ _).2]) rfl (MoveP.same hkh.out (((hNH.out.next hn2H.out).set (Nat.le_succ _) _).set (Nat.le_succ _) _) rfl)
theorem move_born_full (base kb : Nat) (s : KS) (z : Int) (bv sv : Value) (dv : Nat → Value) (w : World) (hK : Km base kb s.tick bv sv dv w) (h : s.n = 200) :
    Calls Try.prog 13 #[ptr kb, .agg #[.int .i64 1, .int .i64 z]] w (MoveP base kb s (nextK s 1 z) (codeK s 1 z) (goneP s 1 z) bv sv dv w) := by
  have hc : codeK s 1 z = 8 := by simp [codeK, h]
  have e1 : nextK s 1 z = s.tick := by simp [nextK, hc]
  have e2 : goneP s 1 z = [] := by simp [goneP, hc]
  rw [hc, e1, e2]
  clear hc e1 e2
  obtain ⟨W1, hW1, hN1, hr, hz, c0, c1⟩ := move_mem (w := w) (k := 1) (z := z)
  have k1 := (hK.new hN1).kbk.cell 1
  simp at k1
  obtain ⟨A, c, rfl, _⟩ := own_open hK.bo
  have h' : (s.n : Int) = 200 := by omega
  have hkh := Lib.hid hK
  have hNH := Lib.hid hN1
  clear hK hN1
  go_enter Try.func13, Try.ntmps13
  go_upto_region 1 with fail
  rw [← hW1]
  clear hW1
  go_wp2_with (go_at_call 17; refine (no_any 8 _).mono ?_; rintro e w2 ⟨rfl, hn2⟩; have hn2H := Lib.hid hn2; obtain ⟨r0, r1, y0, y1, hx⟩ := gone_cells (hr.out.new hn2))
  exact bodyPost_ret (v := .agg #[.int .i64 8, .slice none 0 0]) (by simp [results, Try.results13, go_sem, (hx.out _ _).1, (hx.out _ _).2]) rfl (MoveP.same hkh.out (((hNH.out.next hn2H.out).set (Nat.le_succ _) _).set (Nat.le_succ _) _) rfl)
theorem move_keep_full (base kb : Nat) (s : KS) (z : Int) (bv sv : Value) (dv : Nat → Value) (w : World) (hK : Km base kb s.tick bv sv dv w) (h : s.m = 9) :
    Calls Try.prog 13 #[ptr kb, .agg #[.int .i64 3, .int .i64 z]] w (MoveP base kb s (nextK s 3 z) (codeK s 3 z) (goneP s 3 z) bv sv dv w) := by
  have hc : codeK s 3 z = 8 := by simp [codeK, h]
  have e1 : nextK s 3 z = s.tick := by simp [nextK, hc]
  have e2 : goneP s 3 z = [] := by simp [goneP, hc]
  rw [hc, e1, e2]
  clear hc e1 e2
  obtain ⟨W1, hW1, hN1, hr, hz, c0, c1⟩ := move_mem (w := w) (k := 3) (z := z)
  have k1 := (hK.new hN1).kbk.cell 2
  simp at k1
  obtain ⟨A, c, rfl, _⟩ := own_open hK.so
  have h' : (s.m : Int) = 9 := by omega
  have hkh := Lib.hid hK
  have hNH := Lib.hid hN1
  clear hK hN1
  go_enter Try.func13, Try.ntmps13
  go_upto_region 1 with fail
  rw [← hW1]
  clear hW1
  go_wp2_with (go_at_call 17; refine (no_any 8 _).mono ?_; rintro e w2 ⟨rfl, hn2⟩; have hn2H := Lib.hid hn2; obtain ⟨r0, r1, y0, y1, hx⟩ := gone_cells (hr.out.new hn2))
  exact bodyPost_ret (v := .agg #[.int .i64 8, .slice none 0 0]) (by simp [results, Try.results13, go_sem, (hx.out _ _).1, (hx.out _ _).2]) rfl (MoveP.same hkh.out (((hNH.out.next hn2H.out).set (Nat.le_succ _) _).set (Nat.le_succ _) _) rfl)
end Go.Proofs.Ytiffgeglbafenaa.snap
