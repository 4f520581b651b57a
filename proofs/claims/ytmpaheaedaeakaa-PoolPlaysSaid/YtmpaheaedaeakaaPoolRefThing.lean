/-
  The reference's Model.thing: what it makes; a fetch.
-/
import Derived.Test.YtmpaheaedaeakaaPoolRefOut
namespace Go.Proofs.Ytmpaheaedaeakaa.pool
open Go.ChangeShapes Go.WideShapes Go.ChangeAt Go.RowKit Go.Proofs.Ytmpaheaedaeakaa.kit Go.Deep Go.Maps
set_option linter.unusedVariables false
set_option maxRecDepth 100000
abbrev z5 : Array Value := #[.int .i64 0, .bool false, .int .i64 0, .slice none 0 0, .slice none 0 0]
abbrev z2 : Array Value := #[.slice none 0 0, .slice none 0 0]
theorem thing_mem (w : World) (ms cs xs : Array Value) : ∃ W1, W1 = ((((w.alloc (.cells ms 42)).alloc (.cells cs 34)).alloc (.cells xs 64)).alloc (.cells #[.int .i64 0, .bool false, .int .i64 0, .slice none 0 0, .slice none 0 0] 37)).alloc (.cells #[.slice none 0 0, .slice none 0 0] 42) ∧ New w W1 ∧
    Hid (Blk W1 w.heap.size 42 ms) ∧ Hid (Blk W1 (w.heap.size + 1) 34 cs) ∧ Hid (Blk W1 (w.heap.size + 2) 64 xs) ∧ Hid (Blk W1 (w.heap.size + 3) 37 #[.int .i64 0, .bool false, .int .i64 0, .slice none 0 0, .slice none 0 0]) ∧ Hid (Blk W1 (w.heap.size + 4) 42 #[.slice none 0 0, .slice none 0 0]) := by
  have g1 : Blk (w.alloc (.cells ms 42)) w.heap.size 42 ms := Blk.fresh w _ _
  have g2 := Blk.fresh (w.alloc (.cells ms 42)) 34 cs
  have g3 := Blk.fresh ((w.alloc (.cells ms 42)).alloc (.cells cs 34)) 64 xs
  have g4 := Blk.fresh (((w.alloc (.cells ms 42)).alloc (.cells cs 34)).alloc (.cells xs 64)) 37 z5
  have g5 := Blk.fresh ((((w.alloc (.cells ms 42)).alloc (.cells cs 34)).alloc (.cells xs 64)).alloc (.cells z5 37)) 42 z2
  refine ⟨_, rfl, ((((New.refl w).alloc _).alloc _).alloc _ |>.alloc _).alloc _, ((((g1.alloc _).alloc _).alloc _).alloc _ : _), (((Lib.hid (by simpa using g2) : Hid (Blk _ (w.heap.size + 1) _ _)).out.alloc _).alloc _).alloc _, ((Lib.hid (by simpa using g3) : Hid (Blk _ (w.heap.size + 2) _ _)).out.alloc _).alloc _, (Lib.hid (by simpa using g4) : Hid (Blk _ (w.heap.size + 3) _ _)).out.alloc _, Lib.hid (by simpa using g5)⟩
set_option maxHeartbeats 1000000 in
theorem thing_fetch (tv sv v : Value) (s : PS) (b : By) (C : Cm) (drive keep : Int) (R : Option Addr) (dc : Nat) (w : World) (ht : TL w tv s.ths) (hs : SL w sv s.shs) (hv : Bs w v b) (hb : b.n ≤ 1024) (hC : CmOk w C R dc) (hk : C.kind = 3) :
    Calls Try.prog 21 #[.agg #[tv, sv], .agg (cmL C.kind C.name C.other C.off C.count drive keep R C.dn dc), .agg #[encStr C.name, v]] w (MdP (thingT s b C).1 (thingT s b C).2 w) := by
  have e1 : thingT s b C = (fetchT b C.off C.count, s) := by unfold thingT; rw [if_pos hk]
  rw [e1]
  clear e1
  obtain ⟨W1, hW1, hN1, gm, gc, gx, gp, gq⟩ := thing_mem w #[tv, sv] (cmL C.kind C.name C.other C.off C.count drive keep R C.dn dc) #[encStr C.name, v]
  obtain ⟨c0, c1, c2, c3, c4, c5, c6, c7⟩ := cmd_cells gc.out
  rw [hk] at c0
  have x1 := gx.out.cell 1
  simp at x1
  have hNH := Lib.hid hN1.drew
  have hsb := Lib.hid (someBytes_any v b C.off C.count W1.drew (hv.new hN1.drew) hb hC.o1 hC.c1)
  have htH := Lib.hid (TL.new ht hN1.drew)
  have hsH := Lib.hid (SL.new hs hN1.drew)
  obtain ⟨A, n, rfl⟩ := ht.form
  obtain ⟨B, m, rfl⟩ := hs.form
  obtain ⟨k, j, rfl⟩ := hv.form
  have k0 := gm.out.cell 0
  have k1 := gm.out.cell 1
  simp at k0 k1
  have hkeep : Hid (∀ w', New W1 w' → w'.cell? ⟨w.heap.size + 2, 1, none⟩ = some (.slice k b.n j) ∧ w'.cell? ⟨w.heap.size + 1, 3, none⟩ = some (.int .i64 C.off) ∧ w'.cell? ⟨w.heap.size + 1, 4, none⟩ = some (.int .i64 C.count) ∧ w'.cell? ⟨w.heap.size, 0, none⟩ = some (.slice A s.ths.length n) ∧ w'.cell? ⟨w.heap.size, 1, none⟩ = some (.slice B s.shs.length m)) := fun w' h => ⟨(h.cell (lt_of_cell x1)).trans x1, (h.cell (lt_of_cell c3)).trans c3, (h.cell (lt_of_cell c4)).trans c4, (h.cell (lt_of_cell k0)).trans k0, (h.cell (lt_of_cell k1)).trans k1⟩
  have hS1 := hkeep.out W1.drew (New.refl _).drew
  clear hN1 ht hs hv hC hk
  go_enter Try.func21, Try.ntmps21
  go_upto_region 1 with fail
  rw [← hW1]
  clear hW1
  rw [show w.heap.size + 1 + 1 + 1 + 1 = w.heap.size + 4 from rfl, show w.heap.size + 1 + 1 + 1 = w.heap.size + 3 from rfl, show w.heap.size + 1 + 1 = w.heap.size + 2 from rfl]
  go_wp2
  go_region_held3 (fun w' => w'.cell? ⟨w.heap.size + 2, 1, none⟩ = some (.slice k b.n j) ∧ w'.cell? ⟨w.heap.size + 1, 3, none⟩ = some (.int .i64 C.off) ∧ w'.cell? ⟨w.heap.size + 1, 4, none⟩ = some (.int .i64 C.count) ∧ w'.cell? ⟨w.heap.size, 0, none⟩ = some (.slice A s.ths.length n) ∧ w'.cell? ⟨w.heap.size, 1, none⟩ = some (.slice B s.shs.length m))
    (first
      | with_reducible exact hS1
      | with_reducible exact hS3
      | with_reducible exact hS4
      | with_reducible exact hS5
      | with_reducible assumption)
    (first
      | (go_at_call 22; refine hsb.out.mono ?_; rintro e w3 ⟨u, rfl, hu, hn3⟩
         obtain ⟨A', n', k', B', m', j', rfl⟩ := hu.full
         obtain ⟨⟨r0, r1, r2, r3, r4⟩, ⟨y0, y1, y2, y3, y4⟩, ⟨r5, r6, y5, y6⟩, hx⟩ := out_cells (gp.out.drew.new hn3) (gq.out.drew.new hn3) (by omega)
         have hS3 := hkeep.out w3 (New.next (New.refl _).drew hn3)
         have hS4 : (put5 w3 (w.heap.size + 3) (.int .i64 (fetchT b C.off C.count).code) (.bool false) (.int .i64 ((fetchT b C.off C.count).size : Nat)) (.slice A' n' k') (.slice B' m' j')).cell? ⟨w.heap.size + 2, 1, none⟩ = some (.slice k b.n j) ∧ (put5 w3 (w.heap.size + 3) (.int .i64 (fetchT b C.off C.count).code) (.bool false) (.int .i64 ((fetchT b C.off C.count).size : Nat)) (.slice A' n' k') (.slice B' m' j')).cell? ⟨w.heap.size + 1, 3, none⟩ = some (.int .i64 C.off) ∧ (put5 w3 (w.heap.size + 3) (.int .i64 (fetchT b C.off C.count).code) (.bool false) (.int .i64 ((fetchT b C.off C.count).size : Nat)) (.slice A' n' k') (.slice B' m' j')).cell? ⟨w.heap.size + 1, 4, none⟩ = some (.int .i64 C.count) ∧ (put5 w3 (w.heap.size + 3) (.int .i64 (fetchT b C.off C.count).code) (.bool false) (.int .i64 ((fetchT b C.off C.count).size : Nat)) (.slice A' n' k') (.slice B' m' j')).cell? ⟨w.heap.size, 0, none⟩ = some (.slice A s.ths.length n) ∧ (put5 w3 (w.heap.size + 3) (.int .i64 (fetchT b C.off C.count).code) (.bool false) (.int .i64 ((fetchT b C.off C.count).size : Nat)) (.slice A' n' k') (.slice B' m' j')).cell? ⟨w.heap.size, 1, none⟩ = some (.slice B s.shs.length m) := by
           obtain ⟨u0, u1, u2, u3, u4⟩ := hS3
           exact ⟨(put5_alt _ _ _ _ _ _ _).cell u0 (by dsimp only; omega), (put5_alt _ _ _ _ _ _ _).cell u1 (by dsimp only; omega), (put5_alt _ _ _ _ _ _ _).cell u2 (by dsimp only; omega), (put5_alt _ _ _ _ _ _ _).cell u3 (by dsimp only; omega), (put5_alt _ _ _ _ _ _ _).cell u4 (by dsimp only; omega)⟩
         have hS5 : (putM w3 (w.heap.size + 3) (w.heap.size + 4) (.int .i64 (fetchT b C.off C.count).code) (.bool false) (.int .i64 ((fetchT b C.off C.count).size : Nat)) (.slice A' n' k') (.slice B' m' j') (.slice A s.ths.length n) (.slice B s.shs.length m)).cell? ⟨w.heap.size + 2, 1, none⟩ = some (.slice k b.n j) ∧ (putM w3 (w.heap.size + 3) (w.heap.size + 4) (.int .i64 (fetchT b C.off C.count).code) (.bool false) (.int .i64 ((fetchT b C.off C.count).size : Nat)) (.slice A' n' k') (.slice B' m' j') (.slice A s.ths.length n) (.slice B s.shs.length m)).cell? ⟨w.heap.size + 1, 3, none⟩ = some (.int .i64 C.off) ∧ (putM w3 (w.heap.size + 3) (w.heap.size + 4) (.int .i64 (fetchT b C.off C.count).code) (.bool false) (.int .i64 ((fetchT b C.off C.count).size : Nat)) (.slice A' n' k') (.slice B' m' j') (.slice A s.ths.length n) (.slice B s.shs.length m)).cell? ⟨w.heap.size + 1, 4, none⟩ = some (.int .i64 C.count) ∧ (putM w3 (w.heap.size + 3) (w.heap.size + 4) (.int .i64 (fetchT b C.off C.count).code) (.bool false) (.int .i64 ((fetchT b C.off C.count).size : Nat)) (.slice A' n' k') (.slice B' m' j') (.slice A s.ths.length n) (.slice B s.shs.length m)).cell? ⟨w.heap.size, 0, none⟩ = some (.slice A s.ths.length n) ∧ (putM w3 (w.heap.size + 3) (w.heap.size + 4) (.int .i64 (fetchT b C.off C.count).code) (.bool false) (.int .i64 ((fetchT b C.off C.count).size : Nat)) (.slice A' n' k') (.slice B' m' j') (.slice A s.ths.length n) (.slice B s.shs.length m)).cell? ⟨w.heap.size, 1, none⟩ = some (.slice B s.shs.length m) := by
           obtain ⟨u0, u1, u2, u3, u4⟩ := hS3
           exact ⟨(putM_alt _ _ _ _ _ _ _ _ _ _).cell u0 (by dsimp only; omega), (putM_alt _ _ _ _ _ _ _ _ _ _).cell u1 (by dsimp only; omega), (putM_alt _ _ _ _ _ _ _ _ _ _).cell u2 (by dsimp only; omega), (putM_alt _ _ _ _ _ _ _ _ _ _).cell u3 (by dsimp only; omega), (putM_alt _ _ _ _ _ _ _ _ _ _).cell u4 (by dsimp only; omega)⟩
         have hf := Lib.hid (md_fin (gp.out.drew.new hn3) (gq.out.drew.new hn3) (by omega) (by omega) (hNH.out.next hn3) hu (TL.new htH.out hn3) (SL.new hsH.out hn3))
         clear hu hn3))
  clear hS1 hS3 hS4 hS5 hkeep
  go_wp2
  exact bodyPost_ret (by simp [results, Try.results21, go_sem, hx.out]) rfl hf.out
end Go.Proofs.Ytmpaheaedaeakaa.pool
