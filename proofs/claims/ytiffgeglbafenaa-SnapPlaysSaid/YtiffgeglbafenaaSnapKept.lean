/-
  Contract of (*keeper).move: a snapshot, where there is room.
-/
import Derived.Test.YtiffgeglbafenaaSnapBorn
namespace Go.Proofs.Ytiffgeglbafenaa.snap
open Go.ChangeShapes Go.WideShapes Go.ChangeAt Go.RowKit Go.Proofs.Ytiffgeglbafenaa.kit Go.Deep
set_option linter.unusedVariables false
set_option maxRecDepth 100000
theorem kk_pushS {kb m c g7 c7 x z : Nat} {A : Option Addr} {bv : Value} {dv : Nat → Value} (hat : Value.ownBlock (.slice A m c) = some g7 ∨ g7 = x) (hz : z ≤ x) {g : Nat} (hg : KK kb (m + 1) bv (.slice (some ⟨g7, 0, none⟩) (m + 1) c7) (upd dv m (.slice none 0 0)) g) : KK kb m bv (.slice A m c) dv g ∨ (g = x ∧ z ≤ g) := by
  rcases hg with h | h | h | ⟨i, hi, h⟩
  · exact .inl (.inl h)
  · exact .inl (.inr (.inl h))
  · have : g7 = g := by simpa [Value.ownBlock] using h
    subst this
    rcases hat with h5 | h5
    · exact .inl (.inr (.inr (.inl h5)))
    · exact .inr ⟨h5, by omega⟩
  · by_cases e : i = m
    · subst e
      rw [upd_same] at h
      cases h
    · rw [upd_ne _ _ e] at h
      exact .inl (.inr (.inr (.inr ⟨i, by omega, h⟩)))
set_option maxHeartbeats 4000000 in
theorem move_keep (base kb : Nat) (s : KS) (z : Int) (bv sv : Value) (dv : Nat → Value) (w : World) (hK : Km base kb s.tick bv sv dv w) (hm9 : s.m < 9) (hkp : s.kept ≤ 300) (hbase : base ≤ w.heap.size) :
    Calls Try.prog 13 #[ptr kb, .agg #[.int .i64 3, .int .i64 z]] w (MoveP base kb s (nextK s 3 z) (codeK s 3 z) (goneP s 3 z) bv sv dv w) := by
  have hc : codeK s 3 z = 0 := by simp [codeK]; omega
  have e1 : nextK s 3 z = { s.tick with m := s.m + 1, kept := s.kept + 1, num := upd s.num s.m s.kept, made := upd s.made s.m (s.now + 1), dead := upd s.dead s.m [], lst := upd s.lst s.m ((List.range s.n).filter fun b => s.lives b) } := by simp [nextK, hc]
  have e2 : goneP s 3 z = [] := by simp [goneP, hc]
  rw [hc, e1, e2]
  clear hc e1 e2
  obtain ⟨lst', hlst⟩ : ∃ l, l = (List.range s.n).filter fun b => s.lives b := ⟨_, rfl⟩
  rw [← hlst]
  clear hlst
  obtain ⟨i0, hi0, hz0, hz1', hz2'⟩ := info_parts infoShot
  obtain ⟨W1, hW1, hN1, hr, hz, c0, c1⟩ := move_mem (w := w) (k := 3) (z := z)
  have hK1 := hK.new hN1
  have k0 := hK1.kbk.cell 0
  have k2 := hK1.kbk.cell 2
  have k3 := hK1.kbk.cell 3
  have hKa := hK1.kbk.alloc (.cells #[.int .i64 (s.kept : Nat), .int .i64 ((s.now : Int) + 1), .slice none 0 0] 72)
  have k2a := hKa.cell 2
  have f2 := hK1.kbk.frozen 2
  have f2a := hKa.frozen 2
  simp at k0 k2 k3 k2a
  obtain ⟨A, c, rfl, _⟩ := own_open hK1.so
  have hm9' : ¬ (s.m : Int) = 9 := by omega
  have hm9'' : (s.m : Int) < 9 := by omega
  have hso := hK1.so
  have hKH := Lib.hid hK1
  have hKB := Lib.hid hK1.kbk
  have hlt : Hid (∀ g, KK kb s.m bv (.slice A s.m c) dv g → g < w.heap.size) := fun g hg => (hK.lt hg).2
  have hNH := Lib.hid hN1
  have hzH := Lib.hid hz
  have hb1 : base ≤ W1.heap.size + 1 := by omega
  have hkp' : (s.kept : Int) ≤ 300 := by omega
  clear hK hN1 hK1 hKa hz
  go_enter Try.func13, Try.ntmps13
  go_upto_region 1 with fail
  rw [← hW1]
  clear hW1
  go_wp2
  go_region_law
    (first
      | (refine step_append_lies _ (by rfl) _ _ 50 (by rfl) base 72 i0 _ 3 40 Try.underlying50 hi0 hz0 hz1' hz2' rfl (by decide) (.slice A s.m c) _ _ (by rfl) (hso.alloc _) ⟨W1.heap.size, 0, none⟩ 1 1 [.int .i64 (s.kept : Nat), .int .i64 ((s.now : Int) + 1), .slice none 0 0] (by rfl) (by rfl) (World.news_of_block (cs := #[.int .i64 _, .int .i64 _, .slice _ _ _]) (t := 72) (fr := (0, 0)) (heap_alloc_new W1 _)) (by simp [Value.oneCell']) (by omega) (by unfold maxLen; omega) (by omega) (by simp; omega) (W1.heap.size + 1) (by simp) ?_; intro g7 c7 w7 hown7 hgr7 hat7 hlt7
         have hbq := (hKB.out.alloc (.cells #[.int .i64 (s.kept : Nat), .int .i64 ((s.now : Int) + 1), .slice none 0 0] 72)).drew
         have hb7 := hbq.grown hgr7 (own_ne_blk (hso.alloc (.cells #[.int .i64 (s.kept : Nat), .int .i64 ((s.now : Int) + 1), .slice none 0 0] 72)).drew hbq (by decide))
         have f7 := hb7.cell 2
         have f8 := hb7.frozen 2
         simp at f7))
  all_goals
    obtain ⟨W8, hW8⟩ : ∃ W8, W8 = w7.setCell ⟨kb, 2, none⟩ (.slice (some ⟨g7, 0, none⟩) (s.m + 1) c7) := ⟨_, rfl⟩
    have hk8 : Hid (Km base kb { s.tick with m := s.m + 1, num := upd s.num s.m s.kept, made := upd s.made s.m (s.now + 1), dead := upd s.dead s.m [], lst := upd s.lst s.m lst' } bv (.slice (some ⟨g7, 0, none⟩) (s.m + 1) c7) (upd dv s.m (.slice none 0 0)) W8) := by
      rw [hW8]
      exact hKH.out.pushS ((New.refl W1).alloc _).drew hgr7 (by simpa using hown7)
    have hal : Hid (Alt (KK kb s.m bv (.slice A s.m c) dv) w W8) := by
      rw [hW8]
      exact (Alt.grown ((Alt.of_new hNH.out).alloc _).drew hgr7 fun r e => .inl (.inr (.inr (.inl e)))).set (.inl (.inl rfl)) _
    have hr8 : Hid (Blk W8 (w.heap.size + 1) 35 #[.int .i64 0, .slice none 0 0]) := by
      rw [hW8]
      have hrq := (hr.out.alloc (.cells #[.int .i64 (s.kept : Nat), .int .i64 ((s.now : Int) + 1), .slice none 0 0] 72)).drew
      refine (hrq.grown hgr7 (own_ne_blk (hso.alloc (.cells #[.int .i64 (s.kept : Nat), .int .i64 ((s.now : Int) + 1), .slice none 0 0] 72)).drew hrq (by decide))).far ?_ _
      have := hlt.out kb (.inl rfl)
      dsimp only
      omega
    have hat := Lib.hid hat7
    rw [← hW8]
    clear hW8 hown7 hgr7 hat7 hlt7 hbq hb7 f7 f8 hso k2 k2a f2 f2a k0 k3
    have k3 := hk8.out.kbk.cell 3
    have f3 := hk8.out.kbk.frozen 3
    simp at k3
    have hk9 : Hid (Km base kb { s.tick with m := s.m + 1, kept := s.kept + 1, num := upd s.num s.m s.kept, made := upd s.made s.m (s.now + 1), dead := upd s.dead s.m [], lst := upd s.lst s.m lst' } bv (.slice (some ⟨g7, 0, none⟩) (s.m + 1) c7) (upd dv s.m (.slice none 0 0)) (W8.setCell ⟨kb, 3, none⟩ (.int .i64 ((s.kept : Int) + 1)))) := by
      show Km _ _ _ _ _ _ _
      have := hk8.out.putKept (s.kept + 1)
      simpa using this
    have hr9 : Hid (Blk (W8.setCell ⟨kb, 3, none⟩ (.int .i64 ((s.kept : Int) + 1))) (w.heap.size + 1) 35 #[.int .i64 0, .slice none 0 0]) := hr8.out.far (by have := hlt.out kb (.inl rfl); dsimp only; omega) _
    have hal9 : Hid (Alt (KK kb s.m bv (.slice A s.m c) dv) w (W8.setCell ⟨kb, 3, none⟩ (.int .i64 ((s.kept : Int) + 1)))) := hal.out.set (.inl (.inl rfl)) _
    obtain ⟨W9, hW9⟩ : ∃ W9, Hid (W9 = W8.setCell ⟨kb, 3, none⟩ (.int .i64 ((s.kept : Int) + 1))) := ⟨_, rfl⟩
    rw [← hW9.out] at hk9 hr9 hal9
    obtain ⟨r0, r1, y0, y1, hx⟩ := gone_cells hr9.out
    go_upto_region 16 with fail
    rw [← hW9.out]
    clear hW9 k3 f3
    go_wp2
    exact bodyPost_ret (v := .agg #[.int .i64 0, .slice none 0 0]) (by simp [results, Try.results13, go_sem, (hx.out _ _).1, (hx.out _ _).2]) rfl (by
      have hz' := hzH.out
      have hKK : ∀ g', KK kb (s.m + 1) bv (.slice (some ⟨g7, 0, none⟩) (s.m + 1) c7) (upd dv s.m (.slice none 0 0)) g' → KK kb s.m bv (.slice A s.m c) dv g' ∨ (g' = W1.heap.size + 1 ∧ w.heap.size ≤ g') := fun g' hg' => kk_pushS (by simpa using hat.out) (by omega) hg'
      refine ⟨_, _, _, _, rfl, hk9.out.alt (alt_gone _ _ _ _) fun g' hg' e => ?_, hal9.out.trans' (alt_gone _ _ _ _) fun i hi => .inr (by omega), World.ownsRow_nil _ _ _ _, fun g' hg' => ⟨?_, by simp [Value.ownBlock]⟩⟩
      · rcases hKK g' hg' with h | h
        · have := hlt.out g' h
          omega
        · omega
      · rcases hKK g' hg' with h | h
        · exact .inl h
        · exact .inr h.2)
/-- a move, whatever it is -/
theorem Move_any (base kb : Nat) (s : KS) (k z : Int) (bv sv : Value) (dv : Nat → Value) (w : World) (hI : Inv s) (hkp : s.kept ≤ 300) (hK : Km base kb s.tick bv sv dv w) (hbase : base ≤ w.heap.size) :
    Calls Try.prog 13 #[ptr kb, .agg #[.int .i64 k, .int .i64 z]] w (MoveP base kb s (nextK s k z) (codeK s k z) (goneP s k z) bv sv dv w) := by
  by_cases h1 : k = 1
  · subst h1
    by_cases h : s.n = 200
    · exact move_born_full base kb s z bv sv dv w hK h
    · have := hI.n200
      exact move_born base kb s z bv sv dv w hK (by omega) hbase
  by_cases h2 : k = 2
  · subst h2
    exact move_kill base kb s z bv sv dv w hI hK hbase
  by_cases h3 : k = 3
  · subst h3
    by_cases h : s.m = 9
    · exact move_keep_full base kb s z bv sv dv w hK h
    · have := hI.m9
      exact move_keep base kb s z bv sv dv w hK (by omega) hkp hbase
  by_cases h4 : k = 4
  · subst h4
    exact move_drop base kb s z bv sv dv w hI hK hbase
  exact move_other base kb s k z bv sv dv w hK h1 h2 h3 h4
end Go.Proofs.Ytiffgeglbafenaa.snap
