/-
  Contract of (*State).Do: snapshots, objects, the rest; all.
-/
import Derived.Test.YtmpaheaedaeakaaPoolDo
namespace Go.Proofs.Ytmpaheaedaeakaa.pool
open Go.ChangeShapes Go.WideShapes Go.ChangeAt Go.RowKit Go.Proofs.Ytmpaheaedaeakaa.kit Go.Deep Go.Maps
set_option linter.unusedVariables false
set_option maxRecDepth 100000
section
variable (base sb ob nb c : Nat) (s : PS) (C : Cm) (drive keep : Int) (R : Option Addr) (dc : Nat) (w : World)
theorem do_snaps (hS : St base sb ob nb c s w) (hP : OkP s) (hC : CmOk w C R dc) (hk : C.kind = 11) :
    Calls Try.prog 8 #[ptr sb, cmV C drive keep R dc] w (DoP base sb ob nb c (doT s C).1 (doT s C).2 w) := by
  have e1 : doT s C = (⟨0, 0, By.none, s.shs.map (·.1)⟩, s) := by unfold doT; rw [if_neg (by omega), if_neg (by omega), if_pos hk]
  rw [e1]
  clear e1
  obtain ⟨W1, hW1, hN1, hr, hcm, hz⟩ := cmd_mem (w := w) (cs := cmL C.kind C.name C.other C.off C.count drive keep R C.dn dc)
  obtain ⟨c0, c1, c2, c3, c4, c5, c6, c7⟩ := cmd_cells hcm.out
  rw [hk] at c0
  have hNH := Lib.hid hN1
  have hS1 := hS.new hN1
  have hSH := Lib.hid hS1
  have s1 := hS1.bk.cell 1
  simp at s1
  have hnm := Lib.hid (names_snp nb c s.shs W1 hS1.nm (by have := hP.len; omega))
  clear hN1 hS hC hk hS1
  go_enter Try.func8, Try.ntmps8
  go_upto_region 1 with fail
  rw [← hW1]
  clear hW1
  go_wp2_with fail
  refine hnm.out.mono ?_
  rintro e w2 ⟨v, rfl, hN, hn2⟩
  obtain ⟨B, j, rfl, _⟩ := own_open hN
  obtain ⟨q, hq⟩ : ∃ q, q = (s.shs.map (·.1)).length := ⟨_, rfl⟩
  rw [← hq]
  have hN' : Ns w2 (.slice B q j) (s.shs.map (·.1)) := by rw [hq]; exact hN
  obtain ⟨⟨r0, r1, r2, r3, r4⟩, ⟨y0, y1, y2, y3, y4⟩, hx⟩ := told_cells (hr.out.new hn2)
  have hfin := Lib.hid (DoP.told (a0 := .int .i64 0) (a1 := .bool false) (a2 := .int .i64 0) (a3 := .slice none 0 0) (a4 := .slice B q j) (t := ⟨0, 0, By.none, s.shs.map (·.1)⟩) hSH.out hNH.out hr.out (Nat.le_succ _) ((hSH.out.new hn2).mono (Nat.le_succ _)) ⟨_, _, rfl, Bs.nil _, hN'⟩ (Alt.of_new hn2))
  clear hN hN' hn2 hq
  show _
  dsimp only
  go_wp2
  exact bodyPost_ret (by simp [results, Try.results8, go_sem, hx.out]) rfl hfin.out
theorem do_snap (hS : St base sb ob nb c s w) (hP : OkP s) (hC : CmOk w C R dc) (hcl : c < maxLen) (hbase : base ≤ w.heap.size) (hk : C.kind = 7 ∨ C.kind = 8 ∨ C.kind = 9 ∨ C.kind = 10) :
    Calls Try.prog 8 #[ptr sb, cmV C drive keep R dc] w (DoP base sb ob nb c (doT s C).1 (doT s C).2 w) := by
  have e1 : doT s C = snapT s C := by unfold doT; rw [if_neg (by omega), if_neg (by omega), if_neg (by omega), if_pos hk]
  rw [e1]
  clear e1
  obtain ⟨W1, hW1, hN1, hr, hcm, hz⟩ := cmd_mem (w := w) (cs := cmL C.kind C.name C.other C.off C.count drive keep R C.dn dc)
  obtain ⟨c0, c1, c2, c3, c4, c5, c6, c7⟩ := cmd_cells hcm.out
  have hNH := Lib.hid hN1
  have hS1 := hS.new hN1
  have hSH := Lib.hid hS1
  have hsn := Lib.hid (snap_any base sb ob nb c s C drive keep R dc W1 hS1 hP (hC.new hN1) hcl (by have := hN1.size; omega) hk)
  obtain ⟨t, ht⟩ : ∃ t, Hid (t = (snapT s C).1) := ⟨_, rfl⟩
  obtain ⟨s', hs'⟩ : ∃ s', Hid (s' = (snapT s C).2) := ⟨_, rfl⟩
  rw [← ht.out, ← hs'.out] at hsn ⊢
  clear hN1 hS hC hS1
  have key : ∀ k, C.kind = k → (k = 7 ∨ k = 8 ∨ k = 9 ∨ k = 10) → Calls Try.prog 15 #[ptr sb, .agg (cmL k C.name C.other C.off C.count drive keep R C.dn dc)] W1 (DoP base sb ob nb c t s' W1) := fun k hk _ => by
    rw [← hk]
    exact hsn.out
  rcases hk with hk | hk | hk | hk
  · have hsn := Lib.hid (key 7 hk (by omega))
    rw [hk] at c0
    clear key hk
    go_enter Try.func8, Try.ntmps8
    go_upto_region 1 with fail
    rw [← hW1]
    clear hW1
    go_wp2_with fail
    refine hsn.out.mono ?_
    rintro e w2 hD
    obtain ⟨A, n, k, B, m, j, rfl⟩ := hD.form
    obtain ⟨⟨r0, r1, r2, r3, r4⟩, ⟨y0, y1, y2, y3, y4⟩, hx⟩ := told_cells (hD.blk hSH.out hr.out)
    have hfin := Lib.hid (hD.lift hSH.out hNH.out hr.out (Nat.le_succ _))
    clear hD
    show _
    dsimp only
    go_wp2
    exact bodyPost_ret (by simp [results, Try.results8, go_sem, hx.out]) rfl hfin.out
  · have hsn := Lib.hid (key 8 hk (by omega))
    rw [hk] at c0
    clear key hk
    go_enter Try.func8, Try.ntmps8
    go_upto_region 1 with fail
    rw [← hW1]
    clear hW1
    go_wp2_with fail
    refine hsn.out.mono ?_
    rintro e w2 hD
    obtain ⟨A, n, k, B, m, j, rfl⟩ := hD.form
    obtain ⟨⟨r0, r1, r2, r3, r4⟩, ⟨y0, y1, y2, y3, y4⟩, hx⟩ := told_cells (hD.blk hSH.out hr.out)
    have hfin := Lib.hid (hD.lift hSH.out hNH.out hr.out (Nat.le_succ _))
    clear hD
    show _
    dsimp only
    go_wp2
    exact bodyPost_ret (by simp [results, Try.results8, go_sem, hx.out]) rfl hfin.out
  · have hsn := Lib.hid (key 9 hk (by omega))
    rw [hk] at c0
    clear key hk
    go_enter Try.func8, Try.ntmps8
    go_upto_region 1 with fail
    rw [← hW1]
    clear hW1
    go_wp2_with fail
    refine hsn.out.mono ?_
    rintro e w2 hD
    obtain ⟨A, n, k, B, m, j, rfl⟩ := hD.form
    obtain ⟨⟨r0, r1, r2, r3, r4⟩, ⟨y0, y1, y2, y3, y4⟩, hx⟩ := told_cells (hD.blk hSH.out hr.out)
    have hfin := Lib.hid (hD.lift hSH.out hNH.out hr.out (Nat.le_succ _))
    clear hD
    show _
    dsimp only
    go_wp2
    exact bodyPost_ret (by simp [results, Try.results8, go_sem, hx.out]) rfl hfin.out
  · have hsn := Lib.hid (key 10 hk (by omega))
    rw [hk] at c0
    clear key hk
    go_enter Try.func8, Try.ntmps8
    go_upto_region 1 with fail
    rw [← hW1]
    clear hW1
    go_wp2_with fail
    refine hsn.out.mono ?_
    rintro e w2 hD
    obtain ⟨A, n, k, B, m, j, rfl⟩ := hD.form
    obtain ⟨⟨r0, r1, r2, r3, r4⟩, ⟨y0, y1, y2, y3, y4⟩, hx⟩ := told_cells (hD.blk hSH.out hr.out)
    have hfin := Lib.hid (hD.lift hSH.out hNH.out hr.out (Nat.le_succ _))
    clear hD
    show _
    dsimp only
    go_wp2
    exact bodyPost_ret (by simp [results, Try.results8, go_sem, hx.out]) rfl hfin.out
end
end Go.Proofs.Ytmpaheaedaeakaa.pool
