/-
  Contract of (*keeper).kill: a block dies behind a snapshot.
-/
import Derived.Test.YtiffgeglbafenaaSnapKill
namespace Go.Proofs.Ytiffgeglbafenaa.snap
open Go.ChangeShapes Go.WideShapes Go.ChangeAt Go.RowKit Go.Proofs.Ytiffgeglbafenaa.kit Go.Deep
set_option linter.unusedVariables false
set_option maxRecDepth 100000
theorem alt_gone (W : World) (p : Nat) (a u : Value) : Alt (fun k => k = p) W ((W.setCell ⟨p, 0, none⟩ a).setCell ⟨p, 1, none⟩ u) :=
  Alt.set (K := fun k => k = p) (Alt.set (K := fun k => k = p) (Alt.refl W) (.inl rfl) a) (.inl rfl) u
set_option maxHeartbeats 4000000 in
theorem kill_dies (base kb : Nat) (s : KS) (v k : Nat) (bv sv : Value) (dv : Nat → Value) (w : World) (hK : Km base kb s bv sv dv w) (hn2 : s.n ≤ 200) (hm9 : s.m ≤ 9) (hv : v < s.n) (hl : s.lives v = true) (hk : s.m = k + 1) (hs : ¬ s.made k < s.born v) (hdl : (s.dead k).length ≤ 200) (hbase : base ≤ w.heap.size) :
    Calls Try.prog 18 #[ptr kb, .int .i64 (v : Nat)] w (MoveP base kb s { s with lives := upd s.lives v false, dead := upd s.dead k (s.dead k ++ [v]) } 0 [] bv sv dv w) := by
  obtain ⟨i0, hi0, hz0, hz1', hz2'⟩ := info_parts infoInt
  obtain ⟨W1, hW1, hN1, hr, hz⟩ := gone_mem (w := w)
  have hK1 := hK.new hN1
  have k1 := hK1.kbk.cell 1
  have k2 := hK1.kbk.cell 2
  simp at k1 k2
  obtain ⟨A, c, rfl, _, hcm, hA, hcell⟩ := own_open hK1.bo
  obtain ⟨B, d, rfl, _, hdm, hB, hcell2⟩ := own_open hK1.so
  obtain ⟨g, rfl, _, hg⟩ := hA (by omega)
  obtain ⟨p0, p1⟩ := pairL_at (fun i => .int .i64 (s.born i : Nat)) (fun i => .bool (s.lives i)) s.n v hv
  have c0 := hcell g rfl (v * 2) _ p0
  have c1 := hcell g rfl (v * 2 + 1) _ p1
  rw [hl] at c1
  have hkh := Lib.hid hK
  have hnh := Lib.hid hN1
  have hnn : (s.n : Int) ≤ 200 := by omega
  have hmm : (s.m : Int) ≤ 9 := by omega
  have hd := hK1.dieB hv
  obtain ⟨W2, hW2⟩ : ∃ W2, W2 = W1.setCell ⟨g, v * 2 + 1, none⟩ (.bool false) := ⟨_, rfl⟩
  rw [← hW2] at hd
  have hal : Hid (Alt (KK kb s.m (.slice (some ⟨g, 0, none⟩) s.n c) (.slice B s.m d) dv) w W2) := by
    show Alt _ _ _
    rw [hW2]
    exact (Alt.of_new hN1).set (.inl (.inr (.inl rfl))) _
  have hr2 : Hid (Blk W2 w.heap.size 35 #[.int .i64 0, .slice none 0 0]) := by
    show Blk _ _ _ _
    rw [hW2]
    exact blk_putS hr.out hK1.bo (by decide) _
  have q1 := hd.kbk.cell 1
  have q2 := hd.kbk.cell 2
  simp at q1 q2
  have b0 : W2.cell? ⟨g, v * 2, none⟩ = some (.int .i64 (s.born v : Nat)) := by
    obtain ⟨A', c', e, _, _, _, hc'⟩ := own_open hd.bo
    cases e
    exact hc' g rfl (v * 2) _ (pairL_at _ _ s.n v hv).1
  have z1 := own_frozen hK1.bo (v * 2 + 1)
  clear hcell p0 p1 hK hN1 hK1
  go_enter Try.func18, Try.ntmps18
  go_upto_region 1 with fail
  rw [← hW1]
  clear hW1
  have hm0 : ¬ s.m = 0 := by omega
  have hm0' : ¬ (s.m : Int) = 0 := by omega
  have hk' : (s.m : Int) - 1 = (k : Nat) := by omega
  have hs2 : ¬ (s.made k : Int) < (s.born v : Int) := by omega
  have hk9 : (k : Int) ≤ 9 := by omega
  have hwr : IntKind.i64.wrap (k : Int) = (k : Int) := IntWalk.i64_in _ (by omega)
  have hkm : (k : Int) < (s.m : Int) := by omega
  obtain ⟨gs, rfl, _, hgs⟩ := hB (by omega)
  obtain ⟨t0, t1, t2⟩ := tripL_at (fun i => .int .i64 (s.num i : Nat)) (fun i => .int .i64 (s.made i : Nat)) dv s.m k (by omega)
  have hsh : ∀ j u, (tripL (fun i => .int .i64 (s.num i : Nat)) (fun i => .int .i64 (s.made i : Nat)) dv s.m)[j]? = some u → W2.cell? ⟨gs, j, none⟩ = some u := by
    obtain ⟨A', c', e, _, _, _, hc'⟩ := own_open hd.so
    cases e
    exact hc' gs rfl
  have s1 := hsh _ _ t1
  have s2 := hsh _ _ t2
  have hkl : k < s.m := by omega
  have hkH := Lib.hid hk
  have hdH := Lib.hid hd
  clear hk hd t0 t1 t2 hsh
  go_wp2
  rw [← hW2]
  clear hW2
  go_wp2
  go_quiet (fail)
  have hn3 : Hid (New W2 (W2.drewN nq)) := New.of_drewN _ _
  obtain ⟨W3, hW3⟩ : ∃ W3, W3 = W2.drewN nq := ⟨_, rfl⟩
  rw [← hW3] at hn3 ⊢
  clear hW3
  have hd3 := hdH.out.new hn3.out
  have q1 := hd3.kbk.cell 1
  have q2 := hd3.kbk.cell 2
  simp at q1 q2
  have s3 := (hn3.out.cell (lt_of_cell s2)).trans s2
  have s3a : (W3.alloc (.cells #[.int .i64 (v : Nat)] 3)).cell? ⟨gs, k * 3 + 2, none⟩ = some (dv k) := (((New.refl W3).alloc _).cell (lt_of_cell s3)).trans s3
  have hz3 := hn3.out.size
  have hz2 := hr2.out.lt
  have hz1 := hkh.out.lt (.inl rfl)
  have hown := hd3.dd.own k hkl
  have hr3 := Lib.hid ((hr2.out.new hn3.out).alloc (.cells #[.int .i64 (v : Nat)] 3))
  have hso3 := Lib.hid hd3.so
  have hd3H := Lib.hid hd3
  clear hd3
  go_wp2_with
    (at_builtin; refine wpList_append_lies _ rfl _ _ 33 rfl base 3 i0 _ 1 8 Try.underlying33 hi0 hz0 hz1' hz2' rfl (by decide) (dv k) (s.dead k).length (intL (s.dead k)) rfl (hown.alloc _) ⟨W3.heap.size, 0, none⟩ 1 1 [.int .i64 (v : Nat)] rfl rfl (World.news_of_block (cs := #[.int .i64 _]) (t := 3) (fr := (0, 0)) (heap_alloc_new W3 _)) (by simp [Value.oneCell']) (by omega) (by unfold maxLen; omega) (by omega) (by simp; omega) _ rfl ?_; intro g4 c4 w4 hown4 hgr4 hat4 hlt4
     have hat5 := Lib.hid hat4
     have hown5 := Lib.hid hown4
     have hk4 := Lib.hid (hd3H.out.pushD hkl ((New.refl W3).alloc _) hgr4 hown4 (v7 := .slice (some ⟨g4, 0, none⟩) ((s.dead k).length + 1) c4) (b := v) (fun g hg => by
       have : g4 = g := by simpa [Value.ownBlock] using hg
       subst this
       rcases hat4 with h | h
       · exact .inl h
       · exact .inr (by omega)))
     have hr4 := hr3.out.grown hgr4 (own_ne_blk (hown.alloc _) hr3.out (by decide))
     have so4 := own_keepO (hso3.out.alloc _) (hown.alloc _) (by decide) hgr4
     have hr5 := Lib.hid (blk_putS (k := k * 3 + 2) hr4 so4 (by decide) (.slice (some ⟨g4, 0, none⟩) ((s.dead k).length + 1) c4))
     obtain ⟨r0, r1, y0, y1, hx⟩ := gone_cells hr5.out
     have y4 := own_frozen so4 (k * 3 + 2)
     have s4 : w4.cell? ⟨gs, k * 3 + 2, none⟩ = some (dv k) := by
       obtain ⟨A', c', e, _, _, _, hc'⟩ := own_open so4
       cases e
       exact hc' gs rfl _ _ (tripL_at _ _ _ s.m k hkl).2.2
     have hgr5 := Lib.hid hgr4
     clear hown4 hgr4 hat4 hr4 so4)
  have hKK : ∀ g', KK kb s.m (.slice (some ⟨g, 0, none⟩) s.n c) (.slice (some ⟨gs, 0, none⟩) s.m d) (upd dv k (.slice (some ⟨g4, 0, none⟩) ((s.dead k).length + 1) c4)) g' → KK kb s.m (.slice (some ⟨g, 0, none⟩) s.n c) (.slice (some ⟨gs, 0, none⟩) s.m d) dv g' ∨ g' = W3.heap.size + 1 := fun g' hg' => by
    rcases hg' with h | h | h | ⟨j, hj, h⟩
    · exact .inl (.inl h)
    · exact .inl (.inr (.inl h))
    · exact .inl (.inr (.inr (.inl h)))
    · by_cases ej : j = k
      · rw [ej, upd_same] at h
        have : g4 = g' := by simpa [Value.ownBlock] using h
        subst this
        rcases hat5.out with h5 | h5
        · exact .inl (.inr (.inr (.inr ⟨k, hkl, h5⟩)))
        · exact .inr (by rw [h5]; simp)
      · rw [upd_ne _ _ ej] at h
        exact .inl (.inr (.inr (.inr ⟨j, hj, h⟩)))
  have hA4 := (((hal.out.next hn3.out).alloc (.cells #[.int .i64 (v : Nat)] 3)).grown hgr5.out fun r e => .inl (.inr (.inr (.inr ⟨k, hkl, e⟩)))).set (b := gs) (k := k * 3 + 2) (.inl (.inr (.inr (.inl rfl)))) (.slice (some ⟨g4, 0, none⟩) ((s.dead k).length + 1) c4)
  have hfin : MoveP base kb s { s with lives := upd s.lives v false, dead := upd s.dead k (s.dead k ++ [v]) } 0 [] (.slice (some ⟨g, 0, none⟩) s.n c) (.slice (some ⟨gs, 0, none⟩) s.m d) dv w (.returned (.agg #[.int .i64 0, .slice none 0 0])) (((w4.setCell ⟨gs, k * 3 + 2, none⟩ (.slice (some ⟨g4, 0, none⟩) ((s.dead k).length + 1) c4)).setCell ⟨w.heap.size, 0, none⟩ (.int .i64 0)).setCell ⟨w.heap.size, 1, none⟩ (.slice none 0 0)) := by
    refine ⟨_, _, _, _, rfl, hk4.out.alt (alt_gone _ _ _ _) fun g' hg' e => ?_, hA4.trans' (alt_gone _ _ _ _) fun i hi => .inr (by omega), World.ownsRow_nil _ _ _ _, fun g' hg' => ⟨?_, by simp [Value.ownBlock]⟩⟩
    · rcases hKK g' hg' with h | h
      · have := (hkh.out.lt h).2
        omega
      · omega
    · rcases hKK g' hg' with h | h
      · exact .inl h
      · exact .inr (by omega)
  exact bodyPost_ret (v := .agg #[.int .i64 0, .slice none 0 0]) (by simp [results, Try.results18, go_sem, (hx.out _ _).1, (hx.out _ _).2]) rfl hfin
end Go.Proofs.Ytiffgeglbafenaa.snap
