/-
  Contract of (*State).Do: objects, the rest; all.
-/
import Derived.Test.YtmpaheaedaeakaaPoolDo2
namespace Go.Proofs.Ytmpaheaedaeakaa.pool
open Go.ChangeShapes Go.WideShapes Go.ChangeAt Go.RowKit Go.Proofs.Ytmpaheaedaeakaa.kit Go.Deep Go.Maps
set_option linter.unusedVariables false
set_option maxRecDepth 100000
section
variable (base sb ob nb c : Nat) (s : PS) (C : Cm) (drive keep : Int) (R : Option Addr) (dc : Nat) (w : World)
theorem do_none (hS : St base sb ob nb c s w) (hC : CmOk w C R dc) (hk : C.kind = 2 ∨ C.kind = 3 ∨ C.kind = 4 ∨ C.kind = 5) (hg : get s.ths C.name = none) :
    Calls Try.prog 8 #[ptr sb, cmV C drive keep R dc] w (DoP base sb ob nb c (doT s C).1 (doT s C).2 w) := by
  have e1 : doT s C = (Td.no 6, s) := by unfold doT; rw [if_neg (by omega), if_neg (by omega), if_neg (by omega), if_neg (by omega), if_pos hk, hg]
  rw [e1]
  clear e1
  obtain ⟨W1, hW1, hN1, hr, hcm, hz⟩ := cmd_mem (w := w) (cs := cmL C.kind C.name C.other C.off C.count drive keep R C.dn dc)
  obtain ⟨c0, c1, c2, c3, c4, c5, c6, c7⟩ := cmd_cells hcm.out
  have hNH := Lib.hid hN1
  have hS1 := hS.new hN1
  have hSH := Lib.hid hS1
  have s0 := hS1.bk.cell 0
  simp at s0
  obtain ⟨x, hlk, hsome, _⟩ := (hS1.new (New.refl W1).drew).om.look Try.underlying47 (zeroF _) hC.nl
  rw [hg, show (none : Option By).isSome = false from rfl] at hlk
  obtain ⟨nm, hnm⟩ : ∃ nm, Hid (nm = C.name) := ⟨_, rfl⟩
  rw [← hnm.out] at c1 hlk
  clear hN1 hS hC hS1 hg hsome
  rcases hk with hk | hk | hk | hk
  · rw [hk] at c0
    clear hk
    go_enter Try.func8, Try.ntmps8
    go_upto_region 1 with fail
    rw [← hW1]
    clear hW1
    go_upto_region 21 with fail
    go_region
    go_wp2_with (go_at_call 12; refine (no_any 6 _).mono ?_; rintro e w2 ⟨rfl, hn2⟩; have hn2H := Lib.hid (New.next (New.refl W1).drew hn2); obtain ⟨⟨r0, r1, r2, r3, r4⟩, ⟨y0, y1, y2, y3, y4⟩, hx⟩ := told_cells (hr.out.new (New.next (New.refl W1).drew hn2)))
    exact bodyPost_ret (by simp [results, Try.results8, go_sem, hx.out]) rfl (DoP.told (t := Td.no 6) hSH.out hNH.out hr.out (Nat.le_succ _) ((hSH.out.new hn2H.out).mono (Nat.le_succ _)) (TdV.no _ _) (Alt.of_new hn2H.out))
  · rw [hk] at c0
    clear hk
    go_enter Try.func8, Try.ntmps8
    go_upto_region 1 with fail
    rw [← hW1]
    clear hW1
    go_upto_region 21 with fail
    go_region
    go_wp2_with (go_at_call 12; refine (no_any 6 _).mono ?_; rintro e w2 ⟨rfl, hn2⟩; have hn2H := Lib.hid (New.next (New.refl W1).drew hn2); obtain ⟨⟨r0, r1, r2, r3, r4⟩, ⟨y0, y1, y2, y3, y4⟩, hx⟩ := told_cells (hr.out.new (New.next (New.refl W1).drew hn2)))
    exact bodyPost_ret (by simp [results, Try.results8, go_sem, hx.out]) rfl (DoP.told (t := Td.no 6) hSH.out hNH.out hr.out (Nat.le_succ _) ((hSH.out.new hn2H.out).mono (Nat.le_succ _)) (TdV.no _ _) (Alt.of_new hn2H.out))
  · rw [hk] at c0
    clear hk
    go_enter Try.func8, Try.ntmps8
    go_upto_region 1 with fail
    rw [← hW1]
    clear hW1
    go_upto_region 21 with fail
    go_region
    go_wp2_with (go_at_call 12; refine (no_any 6 _).mono ?_; rintro e w2 ⟨rfl, hn2⟩; have hn2H := Lib.hid (New.next (New.refl W1).drew hn2); obtain ⟨⟨r0, r1, r2, r3, r4⟩, ⟨y0, y1, y2, y3, y4⟩, hx⟩ := told_cells (hr.out.new (New.next (New.refl W1).drew hn2)))
    exact bodyPost_ret (by simp [results, Try.results8, go_sem, hx.out]) rfl (DoP.told (t := Td.no 6) hSH.out hNH.out hr.out (Nat.le_succ _) ((hSH.out.new hn2H.out).mono (Nat.le_succ _)) (TdV.no _ _) (Alt.of_new hn2H.out))
  · rw [hk] at c0
    clear hk
    go_enter Try.func8, Try.ntmps8
    go_upto_region 1 with fail
    rw [← hW1]
    clear hW1
    go_upto_region 21 with fail
    go_region
    go_wp2_with (go_at_call 12; refine (no_any 6 _).mono ?_; rintro e w2 ⟨rfl, hn2⟩; have hn2H := Lib.hid (New.next (New.refl W1).drew hn2); obtain ⟨⟨r0, r1, r2, r3, r4⟩, ⟨y0, y1, y2, y3, y4⟩, hx⟩ := told_cells (hr.out.new (New.next (New.refl W1).drew hn2)))
    exact bodyPost_ret (by simp [results, Try.results8, go_sem, hx.out]) rfl (DoP.told (t := Td.no 6) hSH.out hNH.out hr.out (Nat.le_succ _) ((hSH.out.new hn2H.out).mono (Nat.le_succ _)) (TdV.no _ _) (Alt.of_new hn2H.out))
theorem do_some (hS : St base sb ob nb c s w) (hP : OkP s) (hC : CmOk w C R dc) (hcl : c < maxLen) {b : By} (hk : C.kind = 2 ∨ C.kind = 3 ∨ C.kind = 4 ∨ C.kind = 5) (hg : get s.ths C.name = some b) :
    Calls Try.prog 8 #[ptr sb, cmV C drive keep R dc] w (DoP base sb ob nb c (doT s C).1 (doT s C).2 w) := by
  have e1 : doT s C = thingT s b C := by unfold doT; rw [if_neg (by omega), if_neg (by omega), if_neg (by omega), if_neg (by omega), if_pos hk, hg]
  rw [e1]
  clear e1
  obtain ⟨W1, hW1, hN1, hr, hcm, hz⟩ := cmd_mem (w := w) (cs := cmL C.kind C.name C.other C.off C.count drive keep R C.dn dc)
  obtain ⟨c0, c1, c2, c3, c4, c5, c6, c7⟩ := cmd_cells hcm.out
  have hNH := Lib.hid hN1
  have hS1 := hS.new hN1
  have hSH := Lib.hid hS1
  have s0 := hS1.bk.cell 0
  simp at s0
  obtain ⟨x, hlk, hsome, _⟩ := (hS1.new (New.refl W1).drew).om.look Try.underlying47 (zeroF _) hC.nl
  have hobj := Lib.hid (object_any base sb ob nb c s C drive keep R dc x b W1.drew (hS1.new (New.refl W1).drew) (hC.new (hN1.drew)) hcl (hsome b hg) (hP.th.sz _ (get_some hg)) hk hg)
  rw [hg, show (some b : Option By).isSome = true from rfl] at hlk
  obtain ⟨t, ht⟩ : ∃ t, Hid (t = (thingT s b C).1) := ⟨_, rfl⟩
  obtain ⟨s', hs'⟩ : ∃ s', Hid (s' = (thingT s b C).2) := ⟨_, rfl⟩
  rw [← ht.out, ← hs'.out] at hobj ⊢
  have key : ∀ k, C.kind = k → Calls Try.prog 16 #[ptr sb, x, .agg (cmL k C.name C.other C.off C.count drive keep R C.dn dc)] W1.drew (DoP base sb ob nb c t s' W1.drew) := fun k hk => by
    rw [← hk]
    exact hobj.out
  have hSD := Lib.hid (hS1.new (New.refl W1).drew)
  have hND : Hid (New w W1.drew) := hN1.drew
  have hrD : Hid (Blk W1.drew (w.heap.size + 1) 37 #[.int .i64 0, .bool false, .int .i64 0, .slice none 0 0, .slice none 0 0]) := hr.out.drew
  clear hN1 hS hC hS1 hg hsome
  obtain ⟨nm, hnm⟩ : ∃ nm, Hid (nm = C.name) := ⟨_, rfl⟩
  rw [← hnm.out] at c1 hlk key
  rcases hk with hk | hk | hk | hk
  · have hob := Lib.hid (key 2 hk)
    rw [hk] at c0
    clear hk key
    go_enter Try.func8, Try.ntmps8
    go_upto_region 1 with fail
    rw [← hW1]
    clear hW1
    go_upto_region 21 with fail
    go_region
    go_wp2_with fail
    refine hob.out.mono ?_
    rintro e w2 hD
    obtain ⟨A, n, k, B, m, j, rfl⟩ := hD.form
    obtain ⟨⟨r0, r1, r2, r3, r4⟩, ⟨y0, y1, y2, y3, y4⟩, hx⟩ := told_cells (hD.blk hSD.out hrD.out)
    have hfin := Lib.hid (hD.lift hSD.out hND.out hrD.out (Nat.le_succ _))
    clear hD
    show _
    dsimp only
    go_wp2
    exact bodyPost_ret (by simp [results, Try.results8, go_sem, hx.out]) rfl hfin.out
  · have hob := Lib.hid (key 3 hk)
    rw [hk] at c0
    clear hk key
    go_enter Try.func8, Try.ntmps8
    go_upto_region 1 with fail
    rw [← hW1]
    clear hW1
    go_upto_region 21 with fail
    go_region
    go_wp2_with fail
    refine hob.out.mono ?_
    rintro e w2 hD
    obtain ⟨A, n, k, B, m, j, rfl⟩ := hD.form
    obtain ⟨⟨r0, r1, r2, r3, r4⟩, ⟨y0, y1, y2, y3, y4⟩, hx⟩ := told_cells (hD.blk hSD.out hrD.out)
    have hfin := Lib.hid (hD.lift hSD.out hND.out hrD.out (Nat.le_succ _))
    clear hD
    show _
    dsimp only
    go_wp2
    exact bodyPost_ret (by simp [results, Try.results8, go_sem, hx.out]) rfl hfin.out
  · have hob := Lib.hid (key 4 hk)
    rw [hk] at c0
    clear hk key
    go_enter Try.func8, Try.ntmps8
    go_upto_region 1 with fail
    rw [← hW1]
    clear hW1
    go_upto_region 21 with fail
    go_region
    go_wp2_with fail
    refine hob.out.mono ?_
    rintro e w2 hD
    obtain ⟨A, n, k, B, m, j, rfl⟩ := hD.form
    obtain ⟨⟨r0, r1, r2, r3, r4⟩, ⟨y0, y1, y2, y3, y4⟩, hx⟩ := told_cells (hD.blk hSD.out hrD.out)
    have hfin := Lib.hid (hD.lift hSD.out hND.out hrD.out (Nat.le_succ _))
    clear hD
    show _
    dsimp only
    go_wp2
    exact bodyPost_ret (by simp [results, Try.results8, go_sem, hx.out]) rfl hfin.out
  · have hob := Lib.hid (key 5 hk)
    rw [hk] at c0
    clear hk key
    go_enter Try.func8, Try.ntmps8
    go_upto_region 1 with fail
    rw [← hW1]
    clear hW1
    go_upto_region 21 with fail
    go_region
    go_wp2_with fail
    refine hob.out.mono ?_
    rintro e w2 hD
    obtain ⟨A, n, k, B, m, j, rfl⟩ := hD.form
    obtain ⟨⟨r0, r1, r2, r3, r4⟩, ⟨y0, y1, y2, y3, y4⟩, hx⟩ := told_cells (hD.blk hSD.out hrD.out)
    have hfin := Lib.hid (hD.lift hSD.out hND.out hrD.out (Nat.le_succ _))
    clear hD
    show _
    dsimp only
    go_wp2
    exact bodyPost_ret (by simp [results, Try.results8, go_sem, hx.out]) rfl hfin.out
theorem do_sync (hS : St base sb ob nb c s w) (hC : CmOk w C R dc) (hk : C.kind = 12) :
    Calls Try.prog 8 #[ptr sb, cmV C drive keep R dc] w (DoP base sb ob nb c (doT s C).1 (doT s C).2 w) := by
  have e1 : doT s C = (Td.no 0, s) := by unfold doT; rw [if_neg (by omega), if_neg (by omega), if_neg (by omega), if_neg (by omega), if_neg (by omega), if_pos hk]
  rw [e1]
  clear e1
  obtain ⟨W1, hW1, hN1, hr, hcm, hz⟩ := cmd_mem (w := w) (cs := cmL C.kind C.name C.other C.off C.count drive keep R C.dn dc)
  obtain ⟨c0, c1, c2, c3, c4, c5, c6, c7⟩ := cmd_cells hcm.out
  have hNH := Lib.hid hN1
  have hS1 := hS.new hN1
  have hSH := Lib.hid hS1
  have s0 := hS1.bk.cell 0
  simp at s0
  rw [hk] at c0
  clear hN1 hS hC hS1 hk
  obtain ⟨⟨r0, r1, r2, r3, r4⟩, ⟨y0, y1, y2, y3, y4⟩, hx⟩ := told_cells hr.out
  go_enter Try.func8, Try.ntmps8
  go_upto_region 1 with fail
  rw [← hW1]
  clear hW1
  go_wp2
  exact bodyPost_ret (by simp [results, Try.results8, go_sem, hx.out]) rfl (DoP.told (t := Td.no 0) hSH.out hNH.out hr.out (Nat.le_succ _) (hSH.out.mono (Nat.le_succ _)) (TdV.no _ _) (Alt.refl _))
theorem do_other (hS : St base sb ob nb c s w) (hC : CmOk w C R dc) (hk : ¬ (1 ≤ C.kind ∧ C.kind ≤ 12)) :
    Calls Try.prog 8 #[ptr sb, cmV C drive keep R dc] w (DoP base sb ob nb c (doT s C).1 (doT s C).2 w) := by
  have e1 : doT s C = (Td.no 3, s) := by unfold doT; rw [if_neg (by omega), if_neg (by omega), if_neg (by omega), if_neg (by omega), if_neg (by omega), if_neg (by omega)]
  rw [e1]
  clear e1
  obtain ⟨W1, hW1, hN1, hr, hcm, hz⟩ := cmd_mem (w := w) (cs := cmL C.kind C.name C.other C.off C.count drive keep R C.dn dc)
  obtain ⟨c0, c1, c2, c3, c4, c5, c6, c7⟩ := cmd_cells hcm.out
  have hNH := Lib.hid hN1
  have hS1 := hS.new hN1
  have hSH := Lib.hid hS1
  have s0 := hS1.bk.cell 0
  simp at s0
  obtain ⟨k, hkk⟩ : ∃ k, Hid (k = C.kind) := ⟨_, rfl⟩
  rw [← hkk.out] at c0 hk
  have h1 : k ≠ 1 := by omega
  have h2 : k ≠ 2 := by omega
  have h3 : k ≠ 3 := by omega
  have h4 : k ≠ 4 := by omega
  have h5 : k ≠ 5 := by omega
  have h6 : k ≠ 6 := by omega
  have h7 : k ≠ 7 := by omega
  have h8 : k ≠ 8 := by omega
  have h9 : k ≠ 9 := by omega
  have h10 : k ≠ 10 := by omega
  have h11 : k ≠ 11 := by omega
  have h12 : k ≠ 12 := by omega
  clear hN1 hS hC hS1 hk
  go_enter Try.func8, Try.ntmps8
  go_upto_region 1 with fail
  rw [← hW1]
  clear hW1
  go_wp2_with (go_at_call 12; refine (no_any 3 _).mono ?_; rintro e w2 ⟨rfl, hn2⟩; have hn2H := Lib.hid hn2; obtain ⟨⟨r0, r1, r2, r3, r4⟩, ⟨y0, y1, y2, y3, y4⟩, hx⟩ := told_cells (hr.out.new hn2))
  exact bodyPost_ret (by simp [results, Try.results8, go_sem, hx.out]) rfl (DoP.told (t := Td.no 3) hSH.out hNH.out hr.out (Nat.le_succ _) ((hSH.out.new hn2H.out).mono (Nat.le_succ _)) (TdV.no _ _) (Alt.of_new hn2H.out))
theorem Do_any (hS : St base sb ob nb c s w) (hP : OkP s) (hC : CmOk w C R dc) (hcl : c < maxLen) (hbase : base ≤ w.heap.size) :
    Calls Try.prog 8 #[ptr sb, cmV C drive keep R dc] w (DoP base sb ob nb c (doT s C).1 (doT s C).2 w) := by
  by_cases h : 1 ≤ C.kind ∧ C.kind ≤ 12
  · by_cases h1 : C.kind = 1
    · by_cases hr : roomT s.ths C.name 4 = 0
      · exact do_create base sb ob nb c s C drive keep R dc w hS hP hC hcl h1 hr
      · exact do_create_full base sb ob nb c s C drive keep R dc w hS hP hC h1 hr
    by_cases h2 : C.kind = 6
    · exact do_list base sb ob nb c s C drive keep R dc w hS hP hC h2
    by_cases h3 : C.kind = 11
    · exact do_snaps base sb ob nb c s C drive keep R dc w hS hP hC h3
    by_cases h4 : C.kind = 12
    · exact do_sync base sb ob nb c s C drive keep R dc w hS hC h4
    by_cases h5 : C.kind = 7 ∨ C.kind = 8 ∨ C.kind = 9 ∨ C.kind = 10
    · exact do_snap base sb ob nb c s C drive keep R dc w hS hP hC hcl hbase h5
    have h6 : C.kind = 2 ∨ C.kind = 3 ∨ C.kind = 4 ∨ C.kind = 5 := by omega
    cases hg : get s.ths C.name with
    | none => exact do_none base sb ob nb c s C drive keep R dc w hS hC h6 hg
    | some b => exact do_some base sb ob nb c s C drive keep R dc w hS hP hC hcl h6 hg
  · exact do_other base sb ob nb c s C drive keep R dc w hS hC h
end
end Go.Proofs.Ytmpaheaedaeakaa.pool
