/-
  The reference's Model.thing: a store, a cut; all.
-/
import Derived.Test.YtmpaheaedaeakaaPoolRefThing2
namespace Go.Proofs.Ytmpaheaedaeakaa.pool
open Go.ChangeShapes Go.WideShapes Go.ChangeAt Go.RowKit Go.Proofs.Ytmpaheaedaeakaa.kit Go.Deep Go.Maps
set_option linter.unusedVariables false
set_option maxRecDepth 100000
set_option maxHeartbeats 1000000 in
theorem thing_store (tv sv v : Value) (s : PS) (b : By) (C : Cm) (drive keep : Int) (R : Option Addr) (dc : Nat) (w : World) (ht : TL w tv s.ths) (hs : SL w sv s.shs) (hv : Bs w v b) (hb : b.n ≤ 1024) (hP : OkP s) (hC : CmOk w C R dc) (hk : C.kind = 2) (hd : ¬ (C.dn = 0 ∨ 400 < C.dn)) (ho : ¬ C.off < 0) (hq : ¬ 1024 < C.off + C.dn) :
    Calls Try.prog 21 #[.agg #[tv, sv], .agg (cmL C.kind C.name C.other C.off C.count drive keep R C.dn dc), .agg #[encStr C.name, v]] w (MdP (thingT s b C).1 (thingT s b C).2 w) := by
  have e1 : thingT s b C = (⟨0, (writeB b C.off.toNat C.dn C.df).n, By.none, []⟩, ⟨put s.ths C.name (writeB b C.off.toNat C.dn C.df), s.shs⟩) := by unfold thingT; rw [if_neg (by omega), if_neg (by omega), if_pos hk, if_neg hd, if_neg (by omega)]
  rw [e1]
  clear e1
  obtain ⟨W1, hW1, hN1, gm, gc, gx, gp, gq⟩ := thing_mem w #[tv, sv] (cmL C.kind C.name C.other C.off C.count drive keep R C.dn dc) #[encStr C.name, v]
  obtain ⟨c0, c1, c2, c3, c4, c5, c6, c7⟩ := cmd_cells gc.out
  rw [hk] at c0
  have x0 := gx.out.cell 0
  have x1 := gx.out.cell 1
  have xf := gx.out.frozen 1
  simp at x0 x1
  have hNH := Lib.hid hN1
  have ht1 := Lib.hid (TL.new ht hN1)
  have hs1 := Lib.hid (SL.new hs hN1)
  have hv1 := Lib.hid (hv.new hN1)
  have hC1 := Lib.hid (hC.new hN1)
  have hPH := Lib.hid hP
  obtain ⟨off, hof⟩ : ∃ off : Nat, C.off = off := ⟨C.off.toNat, by omega⟩
  rw [hof] at c3
  rw [show C.off.toNat = off by omega]
  have f1 : ¬ (C.dn : Int) < 1 := by omega
  have f2 : ¬ (400 : Int) < (C.dn : Int) := by omega
  have f3 : ¬ (off : Int) < 0 := by omega
  have f4 : ¬ (1024 : Int) < (off : Int) := by omega
  have f5 : ¬ (1024 : Int) < (off : Int) + (C.dn : Int) := by omega
  have hcl := Lib.hid (bytesWith_any v b off C.dn dc R C.df W1 (hv.new hN1) hb (by omega) (by omega) hC1.out.dat)
  clear hd ho hq
  have hoH := Lib.hid hof
  obtain ⟨b', hb'⟩ : ∃ b', b' = writeB b off C.dn C.df := ⟨_, rfl⟩
  rw [← hb'] at hcl ⊢
  clear hb'
  obtain ⟨n', hn'⟩ : ∃ n', Hid (n' = b'.n) := ⟨_, rfl⟩
  rw [← hn'.out]
  obtain ⟨A, n, rfl⟩ := ht.form
  obtain ⟨B, m, rfl⟩ := hs.form
  obtain ⟨k, j, rfl⟩ := hv.form
  have k0 := gm.out.cell 0
  have k1 := gm.out.cell 1
  simp at k0 k1
  have gx0 := gx
  have ht0 := Lib.hid ht
  have hs0 := Lib.hid hs
  clear hof
  have hkeep0 : Hid (∀ w', New W1 w' → w'.cell? ⟨w.heap.size + 2, 1, none⟩ = some (.slice k b.n j)) := fun w' h => (h.cell (lt_of_cell x1)).trans x1
  clear hN1 ht hs hv hC hk hP
  go_enter Try.func21, Try.ntmps21
  go_upto_region 1 with fail
  rw [← hW1]
  clear hW1
  rw [show w.heap.size + 1 + 1 + 1 + 1 = w.heap.size + 4 from rfl, show w.heap.size + 1 + 1 + 1 = w.heap.size + 3 from rfl, show w.heap.size + 1 + 1 = w.heap.size + 2 from rfl]
  go_wp2_with (go_at_call 33; refine hcl.out.mono ?_; rintro e w3 ⟨u, rfl, hu, hn3⟩; obtain ⟨A', k', rfl⟩ := hu.form; rw [← hn'.out] at hu ⊢; have huH := Lib.hid hu; have hn3H := Lib.hid hn3; have z1 := hkeep0.out w3 hn3; have zf := (gx.out.new hn3).frozen 1; clear hu hn3)
  obtain ⟨W5, hW5⟩ : ∃ W5, W5 = w3.setCell ⟨w.heap.size + 2, 1, none⟩ (.slice A' n' k') := ⟨_, rfl⟩
  have hN5 : Hid (New w W5) := by show New _ _; rw [hW5]; exact (hNH.out.next hn3H.out).set (by dsimp only; omega) _
  replace gx : Hid (Blk W5 (w.heap.size + 2) 64 #[encStr C.name, .slice A' n' k']) := by show Blk _ _ _ _; rw [hW5]; exact (gx.out.new hn3H.out).put 1 _
  have hu5 : Hid (Bs W5 (.slice A' n' k') b') := by
    show Bs _ _ _
    rw [hW5]
    have hq := (gx0.out.new hn3H.out)
    exact huH.out.alt (Alt.set (K := fun q => q = w.heap.size + 2) (Alt.refl w3) (.inl rfl) _) fun g cs hb e => by subst e; exact blk_ne' hb hq (by decide) rfl
  replace gm : Hid (Blk W5 w.heap.size 42 #[.slice A s.ths.length n, .slice B s.shs.length m]) := by show Blk _ _ _ _; rw [hW5]; exact (gm.out.new hn3H.out).far (by dsimp only; omega) _
  replace gp : Hid (Blk W5 (w.heap.size + 3) 37 #[.int .i64 0, .bool false, .int .i64 0, .slice none 0 0, .slice none 0 0]) := by show Blk _ _ _ _; rw [hW5]; exact (gp.out.new hn3H.out).far (by dsimp only; omega) _
  replace gq : Hid (Blk W5 (w.heap.size + 4) 42 #[.slice none 0 0, .slice none 0 0]) := by show Blk _ _ _ _; rw [hW5]; exact (gq.out.new hn3H.out).far (by dsimp only; omega) _
  rw [← hW5]
  clear hW5 x0 x1 k0 k1 z1 zf c0 c1 c2 c3 c4 c5 c6 c7 xf hkeep0
  have hNH := hN5
  have ht5 := Lib.hid (TL.new ht0.out hN5.out)
  have hs5 := Lib.hid (SL.new hs0.out hN5.out)
  have e0 := gx.out.cell 0
  have e1 := gx.out.cell 1
  have k0 := gm.out.cell 0
  have k1 := gm.out.cell 1
  simp at e0 e1 k0 k1
  have hwt := Lib.hid (withThing_any (.slice A s.ths.length n) s.ths C.name A' n' k' b' W5.drew (TL.new ht5.out (New.refl _).drew) (by have := hPH.out.th.len; omega) hPH.out.th.asc (hu5.out.new (New.refl _).drew))
  have hkeep : Hid (∀ w', New W5 w' → w'.cell? ⟨w.heap.size + 2, 0, none⟩ = some (encStr C.name) ∧ w'.cell? ⟨w.heap.size + 2, 1, none⟩ = some (.slice A' n' k') ∧ w'.cell? ⟨w.heap.size, 0, none⟩ = some (.slice A s.ths.length n) ∧ w'.cell? ⟨w.heap.size, 1, none⟩ = some (.slice B s.shs.length m)) := fun w' h => ⟨(h.cell (lt_of_cell e0)).trans e0, (h.cell (lt_of_cell e1)).trans e1, (h.cell (lt_of_cell k0)).trans k0, (h.cell (lt_of_cell k1)).trans k1⟩
  have hS1 := hkeep.out W5.drew (New.refl _).drew
  go_region_held3 (fun w' => w'.cell? ⟨w.heap.size + 2, 0, none⟩ = some (encStr C.name) ∧ w'.cell? ⟨w.heap.size + 2, 1, none⟩ = some (.slice A' n' k') ∧ w'.cell? ⟨w.heap.size, 0, none⟩ = some (.slice A s.ths.length n) ∧ w'.cell? ⟨w.heap.size, 1, none⟩ = some (.slice B s.shs.length m))
    (first
      | with_reducible exact hS1
      | with_reducible exact hS3
      | with_reducible exact hS4
      | with_reducible exact hS5
      | with_reducible assumption)
    (first
      | (go_at_call 20; refine hwt.out.mono ?_; rintro e w3 ⟨u, rfl, hu, hn3⟩
         obtain ⟨A2, k2, rfl⟩ := hu.form
         obtain ⟨⟨r0, r1, r2, r3, r4⟩, ⟨y0, y1, y2, y3, y4⟩, ⟨r5, r6, y5, y6⟩, hx⟩ := out_cells (gp.out.drew.new hn3) (gq.out.drew.new hn3) (by omega)
         have hS3 := hkeep.out w3 (New.next (New.refl _).drew hn3)
         have hS4 : (put5 w3 (w.heap.size + 3) (.int .i64 0) (.bool false) (.int .i64 (n' : Nat)) (.slice none 0 0) (.slice none 0 0)).cell? ⟨w.heap.size + 2, 0, none⟩ = some (encStr C.name) ∧ (put5 w3 (w.heap.size + 3) (.int .i64 0) (.bool false) (.int .i64 (n' : Nat)) (.slice none 0 0) (.slice none 0 0)).cell? ⟨w.heap.size + 2, 1, none⟩ = some (.slice A' n' k') ∧ (put5 w3 (w.heap.size + 3) (.int .i64 0) (.bool false) (.int .i64 (n' : Nat)) (.slice none 0 0) (.slice none 0 0)).cell? ⟨w.heap.size, 0, none⟩ = some (.slice A s.ths.length n) ∧ (put5 w3 (w.heap.size + 3) (.int .i64 0) (.bool false) (.int .i64 (n' : Nat)) (.slice none 0 0) (.slice none 0 0)).cell? ⟨w.heap.size, 1, none⟩ = some (.slice B s.shs.length m) := by
           obtain ⟨u0, u1, u2, u3⟩ := hS3
           exact ⟨(put5_alt _ _ _ _ _ _ _).cell u0 (by dsimp only; omega), (put5_alt _ _ _ _ _ _ _).cell u1 (by dsimp only; omega), (put5_alt _ _ _ _ _ _ _).cell u2 (by dsimp only; omega), (put5_alt _ _ _ _ _ _ _).cell u3 (by dsimp only; omega)⟩
         have hS5 : (putM w3 (w.heap.size + 3) (w.heap.size + 4) (.int .i64 0) (.bool false) (.int .i64 (n' : Nat)) (.slice none 0 0) (.slice none 0 0) (.slice A2 (put s.ths C.name b').length k2) (.slice B s.shs.length m)).cell? ⟨w.heap.size + 2, 0, none⟩ = some (encStr C.name) ∧ (putM w3 (w.heap.size + 3) (w.heap.size + 4) (.int .i64 0) (.bool false) (.int .i64 (n' : Nat)) (.slice none 0 0) (.slice none 0 0) (.slice A2 (put s.ths C.name b').length k2) (.slice B s.shs.length m)).cell? ⟨w.heap.size + 2, 1, none⟩ = some (.slice A' n' k') ∧ (putM w3 (w.heap.size + 3) (w.heap.size + 4) (.int .i64 0) (.bool false) (.int .i64 (n' : Nat)) (.slice none 0 0) (.slice none 0 0) (.slice A2 (put s.ths C.name b').length k2) (.slice B s.shs.length m)).cell? ⟨w.heap.size, 0, none⟩ = some (.slice A s.ths.length n) ∧ (putM w3 (w.heap.size + 3) (w.heap.size + 4) (.int .i64 0) (.bool false) (.int .i64 (n' : Nat)) (.slice none 0 0) (.slice none 0 0) (.slice A2 (put s.ths C.name b').length k2) (.slice B s.shs.length m)).cell? ⟨w.heap.size, 1, none⟩ = some (.slice B s.shs.length m) := by
           obtain ⟨u0, u1, u2, u3⟩ := hS3
           exact ⟨(putM_alt _ _ _ _ _ _ _ _ _ _).cell u0 (by dsimp only; omega), (putM_alt _ _ _ _ _ _ _ _ _ _).cell u1 (by dsimp only; omega), (putM_alt _ _ _ _ _ _ _ _ _ _).cell u2 (by dsimp only; omega), (putM_alt _ _ _ _ _ _ _ _ _ _).cell u3 (by dsimp only; omega)⟩
         have hf := Lib.hid (md_fin (t := ⟨0, n', By.none, []⟩) (s := ⟨put s.ths C.name b', s.shs⟩) (gp.out.drew.new hn3) (gq.out.drew.new hn3) (by omega) (by omega) (hNH.out.drew.next hn3) ⟨_, _, rfl, Bs.nil _, Ns.nil _⟩ hu (SL.new hs5.out ((New.refl _).drew.next hn3)))
         clear hu hn3))
  clear hS1 hS3 hS4 hS5 hkeep
  go_wp2
  exact bodyPost_ret (by simp [results, Try.results21, go_sem, hx.out]) rfl hf.out
set_option maxHeartbeats 1000000 in
theorem thing_cut (tv sv v : Value) (s : PS) (b : By) (C : Cm) (drive keep : Int) (R : Option Addr) (dc : Nat) (w : World) (ht : TL w tv s.ths) (hs : SL w sv s.shs) (hv : Bs w v b) (hb : b.n ≤ 1024) (hP : OkP s) (hC : CmOk w C R dc) (hk : C.kind = 4) (ho : ¬ C.count < 0) (hq : ¬ 1024 < C.count) :
    Calls Try.prog 21 #[.agg #[tv, sv], .agg (cmL C.kind C.name C.other C.off C.count drive keep R C.dn dc), .agg #[encStr C.name, v]] w (MdP (thingT s b C).1 (thingT s b C).2 w) := by
  have e1 : thingT s b C = (⟨0, (sizeB b C.count.toNat).n, By.none, []⟩, ⟨put s.ths C.name (sizeB b C.count.toNat), s.shs⟩) := by unfold thingT; rw [if_neg (by omega), if_neg (by omega), if_neg (by omega), if_neg (by omega)] <;> rfl
  rw [e1]
  clear e1
  obtain ⟨W1, hW1, hN1, gm, gc, gx, gp, gq⟩ := thing_mem w #[tv, sv] (cmL C.kind C.name C.other C.off C.count drive keep R C.dn dc) #[encStr C.name, v]
  obtain ⟨c0, c1, c2, c3, c4, c5, c6, c7⟩ := cmd_cells gc.out
  rw [hk] at c0
  have x0 := gx.out.cell 0
  have x1 := gx.out.cell 1
  have xf := gx.out.frozen 1
  simp at x0 x1
  have hNH := Lib.hid hN1
  have ht1 := Lib.hid (TL.new ht hN1)
  have hs1 := Lib.hid (SL.new hs hN1)
  have hv1 := Lib.hid (hv.new hN1)
  have hC1 := Lib.hid (hC.new hN1)
  have hPH := Lib.hid hP
  obtain ⟨mm, hof⟩ : ∃ mm : Nat, C.count = mm := ⟨C.count.toNat, by omega⟩
  rw [hof] at c4
  rw [show C.count.toNat = mm by omega]
  have f1 : ¬ (mm : Int) < 0 := by omega
  have f2 : ¬ (1024 : Int) < (mm : Int) := by omega
  have hcl := Lib.hid (bytesSized_any v b mm W1 (hv.new hN1) hb (by omega))
  clear ho hq
  have hoH := Lib.hid hof
  obtain ⟨b', hb'⟩ : ∃ b', b' = sizeB b mm := ⟨_, rfl⟩
  rw [← hb'] at hcl ⊢
  clear hb'
  obtain ⟨n', hn'⟩ : ∃ n', Hid (n' = b'.n) := ⟨_, rfl⟩
  rw [← hn'.out]
  obtain ⟨A, n, rfl⟩ := ht.form
  obtain ⟨B, m, rfl⟩ := hs.form
  obtain ⟨k, j, rfl⟩ := hv.form
  have k0 := gm.out.cell 0
  have k1 := gm.out.cell 1
  simp at k0 k1
  have gx0 := gx
  have ht0 := Lib.hid ht
  have hs0 := Lib.hid hs
  clear hof
  have hkeep0 : Hid (∀ w', New W1 w' → w'.cell? ⟨w.heap.size + 2, 1, none⟩ = some (.slice k b.n j)) := fun w' h => (h.cell (lt_of_cell x1)).trans x1
  clear hN1 ht hs hv hC hk hP
  go_enter Try.func21, Try.ntmps21
  go_upto_region 1 with fail
  rw [← hW1]
  clear hW1
  rw [show w.heap.size + 1 + 1 + 1 + 1 = w.heap.size + 4 from rfl, show w.heap.size + 1 + 1 + 1 = w.heap.size + 3 from rfl, show w.heap.size + 1 + 1 = w.heap.size + 2 from rfl]
  go_wp2_with (go_at_call 34; refine hcl.out.mono ?_; rintro e w3 ⟨u, rfl, hu, hn3⟩; obtain ⟨A', k', rfl⟩ := hu.form; rw [← hn'.out] at hu ⊢; have huH := Lib.hid hu; have hn3H := Lib.hid hn3; have z1 := hkeep0.out w3 hn3; have zf := (gx.out.new hn3).frozen 1; clear hu hn3)
  obtain ⟨W5, hW5⟩ : ∃ W5, W5 = w3.setCell ⟨w.heap.size + 2, 1, none⟩ (.slice A' n' k') := ⟨_, rfl⟩
  have hN5 : Hid (New w W5) := by show New _ _; rw [hW5]; exact (hNH.out.next hn3H.out).set (by dsimp only; omega) _
  replace gx : Hid (Blk W5 (w.heap.size + 2) 64 #[encStr C.name, .slice A' n' k']) := by show Blk _ _ _ _; rw [hW5]; exact (gx.out.new hn3H.out).put 1 _
  have hu5 : Hid (Bs W5 (.slice A' n' k') b') := by
    show Bs _ _ _
    rw [hW5]
    have hq := (gx0.out.new hn3H.out)
    exact huH.out.alt (Alt.set (K := fun q => q = w.heap.size + 2) (Alt.refl w3) (.inl rfl) _) fun g cs hb e => by subst e; exact blk_ne' hb hq (by decide) rfl
  replace gm : Hid (Blk W5 w.heap.size 42 #[.slice A s.ths.length n, .slice B s.shs.length m]) := by show Blk _ _ _ _; rw [hW5]; exact (gm.out.new hn3H.out).far (by dsimp only; omega) _
  replace gp : Hid (Blk W5 (w.heap.size + 3) 37 #[.int .i64 0, .bool false, .int .i64 0, .slice none 0 0, .slice none 0 0]) := by show Blk _ _ _ _; rw [hW5]; exact (gp.out.new hn3H.out).far (by dsimp only; omega) _
  replace gq : Hid (Blk W5 (w.heap.size + 4) 42 #[.slice none 0 0, .slice none 0 0]) := by show Blk _ _ _ _; rw [hW5]; exact (gq.out.new hn3H.out).far (by dsimp only; omega) _
  rw [← hW5]
  clear hW5 x0 x1 k0 k1 z1 zf c0 c1 c2 c3 c4 c5 c6 c7 xf hkeep0
  have hNH := hN5
  have ht5 := Lib.hid (TL.new ht0.out hN5.out)
  have hs5 := Lib.hid (SL.new hs0.out hN5.out)
  have e0 := gx.out.cell 0
  have e1 := gx.out.cell 1
  have k0 := gm.out.cell 0
  have k1 := gm.out.cell 1
  simp at e0 e1 k0 k1
  have hwt := Lib.hid (withThing_any (.slice A s.ths.length n) s.ths C.name A' n' k' b' W5.drew (TL.new ht5.out (New.refl _).drew) (by have := hPH.out.th.len; omega) hPH.out.th.asc (hu5.out.new (New.refl _).drew))
  have hkeep : Hid (∀ w', New W5 w' → w'.cell? ⟨w.heap.size + 2, 0, none⟩ = some (encStr C.name) ∧ w'.cell? ⟨w.heap.size + 2, 1, none⟩ = some (.slice A' n' k') ∧ w'.cell? ⟨w.heap.size, 0, none⟩ = some (.slice A s.ths.length n) ∧ w'.cell? ⟨w.heap.size, 1, none⟩ = some (.slice B s.shs.length m)) := fun w' h => ⟨(h.cell (lt_of_cell e0)).trans e0, (h.cell (lt_of_cell e1)).trans e1, (h.cell (lt_of_cell k0)).trans k0, (h.cell (lt_of_cell k1)).trans k1⟩
  have hS1 := hkeep.out W5.drew (New.refl _).drew
  go_region_held3 (fun w' => w'.cell? ⟨w.heap.size + 2, 0, none⟩ = some (encStr C.name) ∧ w'.cell? ⟨w.heap.size + 2, 1, none⟩ = some (.slice A' n' k') ∧ w'.cell? ⟨w.heap.size, 0, none⟩ = some (.slice A s.ths.length n) ∧ w'.cell? ⟨w.heap.size, 1, none⟩ = some (.slice B s.shs.length m))
    (first
      | with_reducible exact hS1
      | with_reducible exact hS3
      | with_reducible exact hS4
      | with_reducible exact hS5
      | with_reducible assumption)
    (first
      | (go_at_call 20; refine hwt.out.mono ?_; rintro e w3 ⟨u, rfl, hu, hn3⟩
         obtain ⟨A2, k2, rfl⟩ := hu.form
         obtain ⟨⟨r0, r1, r2, r3, r4⟩, ⟨y0, y1, y2, y3, y4⟩, ⟨r5, r6, y5, y6⟩, hx⟩ := out_cells (gp.out.drew.new hn3) (gq.out.drew.new hn3) (by omega)
         have hS3 := hkeep.out w3 (New.next (New.refl _).drew hn3)
         have hS4 : (put5 w3 (w.heap.size + 3) (.int .i64 0) (.bool false) (.int .i64 (n' : Nat)) (.slice none 0 0) (.slice none 0 0)).cell? ⟨w.heap.size + 2, 0, none⟩ = some (encStr C.name) ∧ (put5 w3 (w.heap.size + 3) (.int .i64 0) (.bool false) (.int .i64 (n' : Nat)) (.slice none 0 0) (.slice none 0 0)).cell? ⟨w.heap.size + 2, 1, none⟩ = some (.slice A' n' k') ∧ (put5 w3 (w.heap.size + 3) (.int .i64 0) (.bool false) (.int .i64 (n' : Nat)) (.slice none 0 0) (.slice none 0 0)).cell? ⟨w.heap.size, 0, none⟩ = some (.slice A s.ths.length n) ∧ (put5 w3 (w.heap.size + 3) (.int .i64 0) (.bool false) (.int .i64 (n' : Nat)) (.slice none 0 0) (.slice none 0 0)).cell? ⟨w.heap.size, 1, none⟩ = some (.slice B s.shs.length m) := by
           obtain ⟨u0, u1, u2, u3⟩ := hS3
           exact ⟨(put5_alt _ _ _ _ _ _ _).cell u0 (by dsimp only; omega), (put5_alt _ _ _ _ _ _ _).cell u1 (by dsimp only; omega), (put5_alt _ _ _ _ _ _ _).cell u2 (by dsimp only; omega), (put5_alt _ _ _ _ _ _ _).cell u3 (by dsimp only; omega)⟩
         have hS5 : (putM w3 (w.heap.size + 3) (w.heap.size + 4) (.int .i64 0) (.bool false) (.int .i64 (n' : Nat)) (.slice none 0 0) (.slice none 0 0) (.slice A2 (put s.ths C.name b').length k2) (.slice B s.shs.length m)).cell? ⟨w.heap.size + 2, 0, none⟩ = some (encStr C.name) ∧ (putM w3 (w.heap.size + 3) (w.heap.size + 4) (.int .i64 0) (.bool false) (.int .i64 (n' : Nat)) (.slice none 0 0) (.slice none 0 0) (.slice A2 (put s.ths C.name b').length k2) (.slice B s.shs.length m)).cell? ⟨w.heap.size + 2, 1, none⟩ = some (.slice A' n' k') ∧ (putM w3 (w.heap.size + 3) (w.heap.size + 4) (.int .i64 0) (.bool false) (.int .i64 (n' : Nat)) (.slice none 0 0) (.slice none 0 0) (.slice A2 (put s.ths C.name b').length k2) (.slice B s.shs.length m)).cell? ⟨w.heap.size, 0, none⟩ = some (.slice A s.ths.length n) ∧ (putM w3 (w.heap.size + 3) (w.heap.size + 4) (.int .i64 0) (.bool false) (.int .i64 (n' : Nat)) (.slice none 0 0) (.slice none 0 0) (.slice A2 (put s.ths C.name b').length k2) (.slice B s.shs.length m)).cell? ⟨w.heap.size, 1, none⟩ = some (.slice B s.shs.length m) := by
           obtain ⟨u0, u1, u2, u3⟩ := hS3
           exact ⟨(putM_alt _ _ _ _ _ _ _ _ _ _).cell u0 (by dsimp only; omega), (putM_alt _ _ _ _ _ _ _ _ _ _).cell u1 (by dsimp only; omega), (putM_alt _ _ _ _ _ _ _ _ _ _).cell u2 (by dsimp only; omega), (putM_alt _ _ _ _ _ _ _ _ _ _).cell u3 (by dsimp only; omega)⟩
         have hf := Lib.hid (md_fin (t := ⟨0, n', By.none, []⟩) (s := ⟨put s.ths C.name b', s.shs⟩) (gp.out.drew.new hn3) (gq.out.drew.new hn3) (by omega) (by omega) (hNH.out.drew.next hn3) ⟨_, _, rfl, Bs.nil _, Ns.nil _⟩ hu (SL.new hs5.out ((New.refl _).drew.next hn3)))
         clear hu hn3))
  clear hS1 hS3 hS4 hS5 hkeep
  go_wp2
  exact bodyPost_ret (by simp [results, Try.results21, go_sem, hx.out]) rfl hf.out
theorem thing_any (tv sv v : Value) (s : PS) (b : By) (C : Cm) (drive keep : Int) (R : Option Addr) (dc : Nat) (w : World) (ht : TL w tv s.ths) (hs : SL w sv s.shs) (hv : Bs w v b) (hb : b.n ≤ 1024) (hP : OkP s) (hC : CmOk w C R dc) (hk : C.kind = 2 ∨ C.kind = 3 ∨ C.kind = 4 ∨ C.kind = 5) :
    Calls Try.prog 21 #[.agg #[tv, sv], .agg (cmL C.kind C.name C.other C.off C.count drive keep R C.dn dc), .agg #[encStr C.name, v]] w (MdP (thingT s b C).1 (thingT s b C).2 w) := by
  rcases hk with hk | hk | hk | hk
  · by_cases h1 : C.dn = 0
    · exact thing_size0 tv sv v s b C drive keep R dc w ht hs hv hb hP hC hk h1
    by_cases h2 : 400 < C.dn
    · exact thing_size1 tv sv v s b C drive keep R dc w ht hs hv hb hP hC hk h2
    have hd : ¬ (C.dn = 0 ∨ 400 < C.dn) := by omega
    by_cases h3 : C.off < 0
    · exact thing_off0 tv sv v s b C drive keep R dc w ht hs hv hb hP hC hk hd h3
    by_cases h4 : 1024 < C.off
    · exact thing_off1 tv sv v s b C drive keep R dc w ht hs hv hb hP hC hk hd h3 h4
    by_cases h5 : 1024 < C.off + C.dn
    · exact thing_off2 tv sv v s b C drive keep R dc w ht hs hv hb hP hC hk hd h3 h4 h5
    · exact thing_store tv sv v s b C drive keep R dc w ht hs hv hb hP hC hk hd h3 h5
  · exact thing_fetch tv sv v s b C drive keep R dc w ht hs hv hb hC hk
  · by_cases h3 : C.count < 0
    · exact thing_count0 tv sv v s b C drive keep R dc w ht hs hv hb hP hC hk h3
    by_cases h4 : 1024 < C.count
    · exact thing_count1 tv sv v s b C drive keep R dc w ht hs hv hb hP hC hk h3 h4
    · exact thing_cut tv sv v s b C drive keep R dc w ht hs hv hb hP hC hk h3 h4
  · exact thing_remove tv sv v s b C drive keep R dc w ht hs hv hb hP hC hk
end Go.Proofs.Ytmpaheaedaeakaa.pool
