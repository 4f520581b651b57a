/-
  Contract of (*keeper).kill.
-/
import Derived.Test.YtiffgeglbafenaaSnapKeep
namespace Go.Proofs.Ytiffgeglbafenaa.snap
open Go.ChangeShapes Go.WideShapes Go.ChangeAt Go.RowKit Go.Proofs.Ytiffgeglbafenaa.kit Go.Deep
set_option linter.unusedVariables false
set_option maxRecDepth 100000
theorem gone_mem {w : World} : ∃ W1, W1 = w.alloc (.cells #[.int .i64 0, .slice none 0 0] 35) ∧ New w W1 ∧ Hid (Blk W1 w.heap.size 35 #[.int .i64 0, .slice none 0 0]) ∧ W1.heap.size = w.heap.size + 1 :=
  ⟨_, rfl, (New.refl w).alloc _, Blk.fresh w _ _, by simp⟩
theorem MoveP.same {base kb : Nat} {s : KS} {cd : Int} {bv sv : Value} {dv : Nat → Value} {w w' : World} {e : Ending} (h : Km base kb s bv sv dv w) (hn : New w w') (he : e = .returned (.agg #[.int .i64 cd, .slice none 0 0])) : MoveP base kb s s cd [] bv sv dv w e w' :=
  ⟨bv, sv, dv, _, he, h.new hn, Alt.of_new hn, World.ownsRow_nil _ _ _ _, fun g hg => ⟨.inl hg, by simp [Value.ownBlock]⟩⟩
theorem kill_no (base kb : Nat) (s : KS) (b : Int) (bv sv : Value) (dv : Nat → Value) (w : World) (hK : Km base kb s bv sv dv w) (hn2 : s.n ≤ 200) (h : ¬ (0 ≤ b ∧ b < s.n ∧ s.lives b.toNat = true)) :
    Calls Try.prog 18 #[ptr kb, .int .i64 b] w (MoveP base kb s s 6 [] bv sv dv w) := by
  obtain ⟨W1, hW1, hN1, hr, hz⟩ := gone_mem (w := w)
  have hK1 := hK.new hN1
  have k1 := hK1.kbk.cell 1
  simp at k1
  obtain ⟨A, c, rfl, _, hcm, hA, hcell⟩ := own_open hK1.bo
  have hkh := Lib.hid hK
  have hnh := Lib.hid hN1
  have hnn : (s.n : Int) ≤ 200 := by omega
  have fin : Hid (∀ W2, New W1 W2 → ∀ r0 : Blk W2 w.heap.size 35 #[.int .i64 0, .slice none 0 0], Blk ((W2.setCell ⟨w.heap.size, 0, none⟩ (.int .i64 6)).setCell ⟨w.heap.size, 1, none⟩ (.slice none 0 0)) w.heap.size 35 #[.int .i64 6, .slice none 0 0] ∧ New w ((W2.setCell ⟨w.heap.size, 0, none⟩ (.int .i64 6)).setCell ⟨w.heap.size, 1, none⟩ (.slice none 0 0))) :=
    fun W2 hn2 r0 => ⟨(r0.put 0 (.int .i64 6)).put 1 (.slice none 0 0), ((hnh.out.next hn2).set (Nat.le_refl _) _).set (Nat.le_refl _) _⟩
  clear hK hN1 hK1
  go_enter Try.func18, Try.ntmps18
  go_upto_region 1 with fail
  rw [← hW1]
  clear hW1
  have tail : Hid (∀ W2, New W1 W2 → W2.cell? ⟨w.heap.size, 0, none⟩ = some (.int .i64 0) ∧ W2.cell? ⟨w.heap.size, 1, none⟩ = some (.slice none 0 0) ∧ W2.frozen? ⟨w.heap.size, 0, none⟩ = false ∧ W2.frozen? ⟨w.heap.size, 1, none⟩ = false) := fun W2 h2 => by
    have := hr.out.new h2
    have r0 := this.cell 0
    have r1 := this.cell 1
    simp at r0 r1
    exact ⟨r0, r1, this.frozen 0, this.frozen 1⟩
  by_cases h0 : b < 0
  · skip
    go_wp2_with (go_at_call 17; refine (no_any 6 _).mono ?_; rintro e w2 ⟨rfl, hn2⟩; obtain ⟨r0, r1, z0, z1⟩ := tail.out w2 (by first | exact hn2 | exact (New.of_drewN _ _).next hn2))
    obtain ⟨f1, f2⟩ := fin.out w2 hn2 (hr.out.new hn2)
    have x0 := f1.cell 0
    have x1 := f1.cell 1
    simp at x0 x1
    exact bodyPost_ret (v := .agg #[.int .i64 6, .slice none 0 0]) (by simp [results, Try.results18, go_sem, x0, x1]) rfl (MoveP.same hkh.out f2 rfl)
  obtain ⟨v, rfl⟩ : ∃ v : Nat, b = v := ⟨b.toNat, by omega⟩
  by_cases h1 : (s.n : Int) ≤ (v : Int)
  · skip
    go_wp2_with (go_at_call 17; refine (no_any 6 _).mono ?_; rintro e w2 ⟨rfl, hn2⟩; obtain ⟨r0, r1, z0, z1⟩ := tail.out w2 (by first | exact hn2 | exact (New.of_drewN _ _).next hn2))
    obtain ⟨f1, f2⟩ := fin.out w2 hn2 (hr.out.new hn2)
    have x0 := f1.cell 0
    have x1 := f1.cell 1
    simp at x0 x1
    exact bodyPost_ret (v := .agg #[.int .i64 6, .slice none 0 0]) (by simp [results, Try.results18, go_sem, x0, x1]) rfl (MoveP.same hkh.out f2 rfl)
  · have hl : s.lives v = false := by
      have : ¬ (s.lives v = true) := fun hl => h ⟨by omega, by omega, by simpa using hl⟩
      simpa using this
    obtain ⟨g, rfl, _, hg⟩ := hA (by omega)
    obtain ⟨p0, p1⟩ := pairL_at (fun i => .int .i64 (s.born i : Nat)) (fun i => .bool (s.lives i)) s.n v (by omega)
    have c1 := hcell g rfl (v * 2 + 1) _ p1
    rw [hl] at c1
    clear hcell p0 p1
    go_wp2_with (go_at_call 17; refine (no_any 6 _).mono ?_; rintro e w2 ⟨rfl, hn2⟩; obtain ⟨r0, r1, z0, z1⟩ := tail.out w2 (by first | exact hn2 | exact (New.of_drewN _ _).next hn2))
    obtain ⟨f1, f2⟩ := fin.out w2 hn2 (hr.out.new hn2)
    have x0 := f1.cell 0
    have x1 := f1.cell 1
    simp at x0 x1
    exact bodyPost_ret (v := .agg #[.int .i64 6, .slice none 0 0]) (by simp [results, Try.results18, go_sem, x0, x1]) rfl (MoveP.same hkh.out f2 rfl)
/-- the answer's own cells -/
theorem gone_cells {W : World} {p : Nat} {x0 x1 : Value} (h : Blk W p 35 #[x0, x1]) : W.cell? ⟨p, 0, none⟩ = some x0 ∧ W.cell? ⟨p, 1, none⟩ = some x1 ∧ W.frozen? ⟨p, 0, none⟩ = false ∧ W.frozen? ⟨p, 1, none⟩ = false ∧
    Hid (∀ a u, ((W.setCell ⟨p, 0, none⟩ a).setCell ⟨p, 1, none⟩ u).cell? ⟨p, 0, none⟩ = some a ∧ ((W.setCell ⟨p, 0, none⟩ a).setCell ⟨p, 1, none⟩ u).cell? ⟨p, 1, none⟩ = some u) := by
  have r0 := h.cell 0
  have r1 := h.cell 1
  simp at r0 r1
  refine ⟨r0, r1, h.frozen 0, h.frozen 1, fun a u => ?_⟩
  have x0 := ((h.put 0 a).put 1 u).cell 0
  have x1 := ((h.put 0 a).put 1 u).cell 1
  simp at x0 x1
  exact ⟨x0, x1⟩
theorem own_frozen {w : World} {base : Nat} {e : TypeId} {size : Nat} {g n c : Nat} {m : Nat} {xs : List Value} (h : w.ownsRow base e size (.slice (some ⟨g, 0, none⟩) n c) m xs) (i : Nat) : w.frozen? ⟨g, i, none⟩ = false := by
  rcases h.2 with ⟨h0, _⟩ | ⟨g', cap, cur, h0, _, hg0, _⟩
  · cases h0
  · injection h0 with h0 _ _
    injection h0 with h0
    injection h0 with h0 _ _
    subst h0
    simp [World.frozen?, hg0]
set_option maxHeartbeats 4000000 in
theorem kill_loose (base kb : Nat) (s : KS) (v : Nat) (bv sv : Value) (dv : Nat → Value) (w : World) (hK : Km base kb s bv sv dv w) (hn2 : s.n ≤ 200) (hm9 : s.m ≤ 9) (hv : v < s.n) (hl : s.lives v = true) (hs : s.m = 0 ∨ s.made (s.m - 1) < s.born v) (hbase : base ≤ w.heap.size) :
    Calls Try.prog 18 #[ptr kb, .int .i64 (v : Nat)] w (MoveP base kb s { s with lives := upd s.lives v false } 0 [v] bv sv dv w) := by
  obtain ⟨i0, hi0, hz0, hz1, hz2⟩ := info_parts infoInt
  obtain ⟨W1, hW1, hN1, hr, hz⟩ := gone_mem (w := w)
  have hK1 := hK.new hN1
  have k1 := hK1.kbk.cell 1
  have k2 := hK1.kbk.cell 2
  simp at k1 k2
  obtain ⟨A, c, rfl, _, hcm, hA, hcell⟩ := own_open hK1.bo
  obtain ⟨B, d, rfl, _, hdm, hB, hcell2⟩ := own_open hK1.so
  obtain ⟨g, rfl, _, hg⟩ := hA (by omega)
  obtain ⟨p0, p1⟩ := pairL_at (fun i => .int .i64 (s.born i : Nat)) (fun i => .bool (s.lives i)) s.n v hv
  have c0 := hcell g rfl (v * 2) _ p0
  have c1 := hcell g rfl (v * 2 + 1) _ p1
  rw [hl] at c1
  have hkh := Lib.hid hK
  have hnh := Lib.hid hN1
  have hnn : (s.n : Int) ≤ 200 := by omega
  have hmm : (s.m : Int) ≤ 9 := by omega
  have hd := hK1.dieB hv
  obtain ⟨W2, hW2⟩ : ∃ W2, W2 = W1.setCell ⟨g, v * 2 + 1, none⟩ (.bool false) := ⟨_, rfl⟩
  rw [← hW2] at hd
  have hal : Hid (Alt (KK kb s.m (.slice (some ⟨g, 0, none⟩) s.n c) (.slice B s.m d) dv) w W2) := by
    show Alt _ _ _
    rw [hW2]
    exact (Alt.of_new hN1).set (.inl (.inr (.inl rfl))) _
  have hr2 : Hid (Blk W2 w.heap.size 35 #[.int .i64 0, .slice none 0 0]) := by
    show Blk _ _ _ _
    rw [hW2]
    exact blk_putS hr.out hK1.bo (by decide) _
  have q1 := hd.kbk.cell 1
  have q2 := hd.kbk.cell 2
  simp at q1 q2
  have b0 : W2.cell? ⟨g, v * 2, none⟩ = some (.int .i64 (s.born v : Nat)) := by
    obtain ⟨A', c', e, _, _, _, hc'⟩ := own_open hd.bo
    cases e
    exact hc' g rfl (v * 2) _ (pairL_at _ _ s.n v hv).1
  have hfin : Hid (∀ W3, New W2 W3 → MoveP base kb s { s with lives := upd s.lives v false } 0 [v] (.slice (some ⟨g, 0, none⟩) s.n c) (.slice B s.m d) dv w (.returned (.agg #[.int .i64 0, .slice (some ⟨W3.heap.size, 0, none⟩) 1 1])) (((W3.alloc (.cells #[.int .i64 (v : Nat)] 3)).setCell ⟨w.heap.size, 0, none⟩ (.int .i64 0)).setCell ⟨w.heap.size, 1, none⟩ (.slice (some ⟨W3.heap.size, 0, none⟩) 1 1))) := fun W3 hn3 => by
    have hz3 := hn3.size
    have hz2 := hr2.out.lt
    have hr3 := (hr2.out.new hn3).alloc (.cells #[.int .i64 (v : Nat)] 3)
    have ha : Alt (fun k => k = w.heap.size) W3 (((W3.alloc (.cells #[.int .i64 (v : Nat)] 3)).setCell ⟨w.heap.size, 0, none⟩ (.int .i64 0)).setCell ⟨w.heap.size, 1, none⟩ (.slice (some ⟨W3.heap.size, 0, none⟩) 1 1)) :=
      Alt.set (K := fun k => k = w.heap.size) (Alt.set (K := fun k => k = w.heap.size) ((Alt.refl W3).alloc _) (.inl rfl) _) (.inl rfl) _
    have hd3 := hd.new hn3
    have hlt : ∀ g', KK kb s.m (.slice (some ⟨g, 0, none⟩) s.n c) (.slice B s.m d) dv g' → g' < w.heap.size := fun g' hg' => (hkh.out.lt hg').2
    refine ⟨_, _, dv, _, rfl, hd3.alt ha fun g' hg' => by have := hlt g' hg'; omega, ?_, ?_, fun g' hg' => ⟨.inl hg', by have := hlt g' hg'; simp [Value.ownBlock]; omega⟩⟩
    · exact (hal.out.next hn3).trans' ha fun i hi => .inr (by omega)
    · have hb := (Blk.fresh W3 3 #[.int .i64 (v : Nat)]).far (p := ⟨w.heap.size, 0, none⟩) (by dsimp only; omega) (.int .i64 0)
      have hb2 := hb.far (p := ⟨w.heap.size, 1, none⟩) (by dsimp only; omega) (.slice (some ⟨W3.heap.size, 0, none⟩) 1 1)
      exact ⟨rfl, .inr ⟨W3.heap.size, 1, _, rfl, by omega, hb2, Nat.le_refl _, by unfold maxLen; omega, rfl, rfl⟩⟩
  have z1 := own_frozen hK1.bo (v * 2 + 1)
  clear hcell p0 p1 hK hN1 hK1
  go_enter Try.func18, Try.ntmps18
  go_upto_region 1 with fail
  rw [← hW1]
  clear hW1
  by_cases hm0 : s.m = 0
  · have hm0' : (s.m : Int) = 0 := by omega
    go_wp2
    rw [← hW2]
    clear hW2
    go_wp2
    go_quiet (fail)
    have hn3 : Hid (New W2 (W2.drewN nq)) := New.of_drewN _ _
    obtain ⟨W3, hW3⟩ : ∃ W3, W3 = W2.drewN nq := ⟨_, rfl⟩
    rw [← hW3] at hn3 ⊢
    clear hW3
    obtain ⟨r0, r1, y0, y1, hx⟩ := gone_cells ((hr2.out.new hn3.out).alloc (.cells #[.int .i64 (v : Nat)] 3))
    go_wp2
    exact bodyPost_ret (v := .agg #[.int .i64 0, .slice (some ⟨W3.heap.size, 0, none⟩) 1 1]) (by simp [results, Try.results18, go_sem, (hx.out _ _).1, (hx.out _ _).2]) rfl (hfin.out _ hn3.out)
  · obtain ⟨k, hk⟩ : ∃ k, s.m = k + 1 := ⟨s.m - 1, by omega⟩
    have hm0' : ¬ (s.m : Int) = 0 := by omega
    have hk' : (s.m : Int) - 1 = (k : Nat) := by omega
    have hs' : s.made k < s.born v := by
      rcases hs with h | h
      · exact absurd h hm0
      · rw [hk] at h; exact h
    have hs2 : (s.made k : Int) < (s.born v : Int) := by omega
    have hk9 : (k : Int) ≤ 9 := by omega
    have hwr : IntKind.i64.wrap (k : Int) = (k : Int) := IntWalk.i64_in _ (by omega)
    have hkm : (k : Int) < (s.m : Int) := by omega
    obtain ⟨gs, rfl, _, hgs⟩ := hB (by omega)
    have s1 : W2.cell? ⟨gs, k * 3 + 1, none⟩ = some (.int .i64 (s.made k : Nat)) := by
      obtain ⟨A', c', e, _, _, _, hc'⟩ := own_open hd.so
      cases e
      exact hc' gs rfl (k * 3 + 1) _ (tripL_at _ _ _ s.m k (by omega)).2.1
    have hkH := Lib.hid hk
    clear hk hs
    go_wp2
    rw [← hW2]
    clear hW2
    go_wp2
    go_quiet (fail)
    have hn3 : Hid (New W2 (W2.drewN nq)) := New.of_drewN _ _
    obtain ⟨W3, hW3⟩ : ∃ W3, W3 = W2.drewN nq := ⟨_, rfl⟩
    rw [← hW3] at hn3 ⊢
    clear hW3
    obtain ⟨r0, r1, y0, y1, hx⟩ := gone_cells ((hr2.out.new hn3.out).alloc (.cells #[.int .i64 (v : Nat)] 3))
    go_wp2
    exact bodyPost_ret (v := .agg #[.int .i64 0, .slice (some ⟨W3.heap.size, 0, none⟩) 1 1]) (by simp [results, Try.results18, go_sem, (hx.out _ _).1, (hx.out _ _).2]) rfl (hfin.out _ hn3.out)
end Go.Proofs.Ytiffgeglbafenaa.snap
