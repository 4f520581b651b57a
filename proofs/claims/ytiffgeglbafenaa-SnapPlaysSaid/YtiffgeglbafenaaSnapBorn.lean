/-
  Contract of (*keeper).move: a birth, where there is room.
-/
import Derived.Test.YtiffgeglbafenaaSnapStep
namespace Go.Proofs.Ytiffgeglbafenaa.snap
open Go.ChangeShapes Go.WideShapes Go.ChangeAt Go.RowKit Go.Proofs.Ytiffgeglbafenaa.kit Go.Deep
set_option linter.unusedVariables false
set_option maxRecDepth 100000
theorem kk_pushB {kb m n c g7 c7 x z : Nat} {A : Option Addr} {sv : Value} {dv : Nat → Value} (hat : Value.ownBlock (.slice A n c) = some g7 ∨ g7 = x) (hz : z ≤ x) {g : Nat} (hg : KK kb m (.slice (some ⟨g7, 0, none⟩) (n + 1) c7) sv dv g) : KK kb m (.slice A n c) sv dv g ∨ (g = x ∧ z ≤ g) := by
  rcases hg with h | h | h | h
  · exact .inl (.inl h)
  · have : g7 = g := by simpa [Value.ownBlock] using h
    subst this
    rcases hat with h5 | h5
    · exact .inl (.inr (.inl h5))
    · exact .inr ⟨h5, by omega⟩
  · exact .inl (.inr (.inr (.inl h)))
  · exact .inl (.inr (.inr (.inr h)))
set_option maxHeartbeats 4000000 in
theorem move_born (base kb : Nat) (s : KS) (z : Int) (bv sv : Value) (dv : Nat → Value) (w : World) (hK : Km base kb s.tick bv sv dv w) (hn2 : s.n < 200) (hbase : base ≤ w.heap.size) :
    Calls Try.prog 13 #[ptr kb, .agg #[.int .i64 1, .int .i64 z]] w (MoveP base kb s (nextK s 1 z) (codeK s 1 z) (goneP s 1 z) bv sv dv w) := by
  have hc : codeK s 1 z = 0 := by simp [codeK]; omega
  have e1 : nextK s 1 z = { s.tick with n := s.n + 1, born := upd s.born s.n (s.now + 1), lives := upd s.lives s.n true } := by simp [nextK, hc]
  have e2 : goneP s 1 z = [] := by simp [goneP, hc]
  rw [hc, e1, e2]
  clear hc e1 e2
  obtain ⟨i0, hi0, hz0, hz1', hz2'⟩ := info_parts infoBlk
  obtain ⟨W1, hW1, hN1, hr, hz, c0, c1⟩ := move_mem (w := w) (k := 1) (z := z)
  have hK1 := hK.new hN1
  have k0 := hK1.kbk.cell 0
  have k1 := hK1.kbk.cell 1
  have hKa := hK1.kbk.alloc (.cells #[.int .i64 ((s.now : Int) + 1), .bool true] 69)
  have k1a := hKa.cell 1
  have f1 := hK1.kbk.frozen 1
  have f1a := hKa.frozen 1
  simp at k0 k1 k1a
  obtain ⟨A, c, rfl, _⟩ := own_open hK1.bo
  have hn2' : ¬ (s.n : Int) = 200 := by omega
  have hn2'' : (s.n : Int) < 200 := by omega
  have hbo := hK1.bo
  have hKH := Lib.hid hK1
  have hKB := Lib.hid hK1.kbk
  have hlt : Hid (∀ g, KK kb s.m (.slice A s.n c) sv dv g → g < w.heap.size) := fun g hg => (hK.lt hg).2
  have hNH := Lib.hid hN1
  have hzH := Lib.hid hz
  have hb1 : base ≤ W1.heap.size + 1 := by omega
  clear hK hN1 hK1 hKa hz
  go_enter Try.func13, Try.ntmps13
  go_upto_region 1 with fail
  rw [← hW1]
  clear hW1
  go_wp2
  go_region_law
    (first
      | (refine step_append_lies _ (by rfl) _ _ 49 (by rfl) base 69 i0 _ 2 16 Try.underlying49 hi0 hz0 hz1' hz2' rfl (by decide) (.slice A s.n c) _ _ (by rfl) (hbo.alloc _) ⟨W1.heap.size, 0, none⟩ 1 1 [.int .i64 ((s.now : Int) + 1), .bool true] (by rfl) (by rfl) (World.news_of_block (cs := #[.int .i64 _, .bool _]) (t := 69) (fr := (0, 0)) (heap_alloc_new W1 _)) (by simp [Value.oneCell']) (by omega) (by unfold maxLen; omega) (by omega) (by simp; omega) (W1.heap.size + 1) (by simp) ?_; intro g7 c7 w7 hown7 hgr7 hat7 hlt7
         have hbq := (hKB.out.alloc (.cells #[.int .i64 ((s.now : Int) + 1), .bool true] 69)).drew
         have hb7 := hbq.grown hgr7 (own_ne_blk (hbo.alloc (.cells #[.int .i64 ((s.now : Int) + 1), .bool true] 69)).drew hbq (by decide))
         have f7 := hb7.cell 1
         have f8 := hb7.frozen 1
         simp at f7))
  all_goals
    obtain ⟨W8, hW8⟩ : ∃ W8, W8 = w7.setCell ⟨kb, 1, none⟩ (.slice (some ⟨g7, 0, none⟩) (s.n + 1) c7) := ⟨_, rfl⟩
    have hk8 : Hid (Km base kb { s.tick with n := s.n + 1, born := upd s.born s.n (s.now + 1), lives := upd s.lives s.n true } (.slice (some ⟨g7, 0, none⟩) (s.n + 1) c7) sv dv W8) := by
      rw [hW8]
      exact hKH.out.pushB ((New.refl W1).alloc _).drew hgr7 (by simpa using hown7)
    have hal : Hid (Alt (KK kb s.m (.slice A s.n c) sv dv) w W8) := by
      rw [hW8]
      exact (Alt.grown ((Alt.of_new hNH.out).alloc _).drew hgr7 fun r e => .inl (.inr (.inl e))).set (.inl (.inl rfl)) _
    have hr8 : Hid (Blk W8 (w.heap.size + 1) 35 #[.int .i64 0, .slice none 0 0]) := by
      rw [hW8]
      have hrq := (hr.out.alloc (.cells #[.int .i64 ((s.now : Int) + 1), .bool true] 69)).drew
      refine (hrq.grown hgr7 (own_ne_blk (hbo.alloc (.cells #[.int .i64 ((s.now : Int) + 1), .bool true] 69)).drew hrq (by decide))).far ?_ _
      have := hlt.out kb (.inl rfl)
      dsimp only
      omega
    have hat := Lib.hid hat7
    rw [← hW8]
    clear hW8 hown7 hgr7 hat7 hlt7 hbq hb7 f7 f8 hbo k1 k1a f1 f1a k0
    obtain ⟨r0, r1, y0, y1, hx⟩ := gone_cells hr8.out
    go_wp2
    exact bodyPost_ret (v := .agg #[.int .i64 0, .slice none 0 0]) (by simp [results, Try.results13, go_sem, (hx.out _ _).1, (hx.out _ _).2]) rfl (by
      have hz' := hzH.out
      have hKK : ∀ g', KK kb s.m (.slice (some ⟨g7, 0, none⟩) (s.n + 1) c7) sv dv g' → KK kb s.m (.slice A s.n c) sv dv g' ∨ (g' = W1.heap.size + 1 ∧ w.heap.size ≤ g') := fun g' hg' => kk_pushB (by simpa using hat.out) (by omega) hg'
      refine ⟨_, _, _, _, rfl, hk8.out.alt (alt_gone _ _ _ _) fun g' hg' e => ?_, hal.out.trans' (alt_gone _ _ _ _) fun i hi => .inr (by omega), World.ownsRow_nil _ _ _ _, fun g' hg' => ⟨?_, by simp [Value.ownBlock]⟩⟩
      · rcases hKK g' hg' with h | h
        · have := hlt.out g' h
          omega
        · omega
      · rcases hKK g' hg' with h | h
        · exact .inl h
        · exact .inr h.2)
end Go.Proofs.Ytiffgeglbafenaa.snap
