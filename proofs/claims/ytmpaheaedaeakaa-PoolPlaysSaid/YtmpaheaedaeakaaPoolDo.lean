/-
  Contract of (*State).Do.
-/
import Derived.Test.YtmpaheaedaeakaaPoolSnap2
namespace Go.Proofs.Ytmpaheaedaeakaa.pool
open Go.ChangeShapes Go.WideShapes Go.ChangeAt Go.RowKit Go.Proofs.Ytmpaheaedaeakaa.kit Go.Deep Go.Maps
set_option linter.unusedVariables false
set_option maxRecDepth 100000
section
variable (base sb ob nb c : Nat) (s : PS) (C : Cm) (drive keep : Int) (R : Option Addr) (dc : Nat) (w : World)
theorem do_create_full (hS : St base sb ob nb c s w) (hP : OkP s) (hC : CmOk w C R dc) (hk : C.kind = 1) (hr0 : roomT s.ths C.name 4 ≠ 0) :
    Calls Try.prog 8 #[ptr sb, cmV C drive keep R dc] w (DoP base sb ob nb c (doT s C).1 (doT s C).2 w) := by
  have e1 : doT s C = (Td.no (roomT s.ths C.name 4), s) := by unfold doT; rw [if_pos hk, if_neg hr0]
  rw [e1]
  clear e1
  obtain ⟨W1, hW1, hN1, hr, hcm, hz⟩ := cmd_mem (w := w) (cs := cmL C.kind C.name C.other C.off C.count drive keep R C.dn dc)
  obtain ⟨c0, c1, c2, c3, c4, c5, c6, c7⟩ := cmd_cells hcm.out
  rw [hk] at c0
  have hNH := Lib.hid hN1
  have hS1 := hS.new hN1
  have hSH := Lib.hid hS1
  have s0 := hS1.bk.cell 0
  simp at s0
  have hrm : Hid (∀ w', New W1 w' → Calls Try.prog 11 #[.map (some ob), encStr C.name, .int .i64 4] w' fun e w'' => e = .returned (.int .i64 (roomT s.ths C.name 4)) ∧ New w' w'') := fun w' hn => room_obj ob c 4 C.name s.ths w' (hS1.new hn).om hC.nl (by omega) (by have := hP.th.len; omega)
  obtain ⟨cd, hcd⟩ : ∃ cd, Hid (cd = roomT s.ths C.name 4) := ⟨_, rfl⟩
  rw [← hcd.out] at hrm hr0 ⊢
  obtain ⟨nm, hnm⟩ : ∃ nm, Hid (nm = C.name) := ⟨_, rfl⟩
  rw [← hnm.out] at c1 hrm
  have k0 := NewW.keep c1
  have k1 := NewW.keep s0
  clear hN1 hS hC hk hS1
  go_enter Try.func8, Try.ntmps8
  go_upto_region 1 with fail
  rw [← hW1]
  clear hW1
  go_upto_region 4 with fail
  (refine wp_region_quiet_new (by kernel_rfl) (by kernel_rfl) ?_; (repeat (first | go_big_quiet_step (first | (go_at_call 11; exact NewW.call _ (hrm.out _ (NewW.is _)))) | quiet_step (first | (go_at_call 11; exact NewW.call _ (hrm.out _ (NewW.is _)))))); refine wpQuiet_nil ?_; rintro W2 ⟨⟨_, hn_W2⟩, rfl⟩)
  have hn2 := Lib.hid hn_W2
  clear k0 k1
  go_wp2_with (go_at_call 12; refine (no_any cd _).mono ?_; rintro e w2 ⟨rfl, hn3⟩; have hn3H := Lib.hid (hn2.out.next hn3); obtain ⟨⟨r0, r1, r2, r3, r4⟩, ⟨y0, y1, y2, y3, y4⟩, hx⟩ := told_cells (hr.out.new (hn2.out.next hn3)))
  exact bodyPost_ret (by simp [results, Try.results8, go_sem, hx.out]) rfl (DoP.told (t := Td.no cd) hSH.out hNH.out hr.out (Nat.le_succ _) ((hSH.out.new hn3H.out).mono (Nat.le_succ _)) (TdV.no _ _) (Alt.of_new hn3H.out))
theorem do_create (hS : St base sb ob nb c s w) (hP : OkP s) (hC : CmOk w C R dc) (hcl : c < maxLen) (hk : C.kind = 1) (hr0 : roomT s.ths C.name 4 = 0) :
    Calls Try.prog 8 #[ptr sb, cmV C drive keep R dc] w (DoP base sb ob nb c (doT s C).1 (doT s C).2 w) := by
  have e1 : doT s C = (Td.no 0, ⟨put s.ths C.name By.none, s.shs⟩) := by unfold doT; rw [if_pos hk, if_pos hr0]
  rw [e1]
  clear e1
  obtain ⟨W1, hW1, hN1, hr, hcm, hz⟩ := cmd_mem (w := w) (cs := cmL C.kind C.name C.other C.off C.count drive keep R C.dn dc)
  obtain ⟨c0, c1, c2, c3, c4, c5, c6, c7⟩ := cmd_cells hcm.out
  rw [hk] at c0
  have hNH := Lib.hid hN1
  have hS1 := hS.new hN1
  have hSH := Lib.hid hS1
  have s0 := hS1.bk.cell 0
  have s2 := hS1.bk.cell 2
  simp at s0 s2
  have hrm : Hid (∀ w', New W1 w' → Calls Try.prog 11 #[.map (some ob), encStr C.name, .int .i64 4] w' fun e w'' => e = .returned (.int .i64 0) ∧ New w' w'') := fun w' hn => by
    have := room_obj ob c 4 C.name s.ths w' (hS1.new hn).om hC.nl (by omega) (by have := hP.th.len; omega)
    rw [hr0] at this
    exact this
  have hnl := Lib.hid hC.nl
  obtain ⟨nm, hnm⟩ : ∃ nm, Hid (nm = C.name) := ⟨_, rfl⟩
  rw [← hnm.out] at c1 hrm hnl ⊢
  have k0 := NewW.keep c1
  have k1 := NewW.keep s0
  clear hN1 hS hC hk hS1 hr0
  go_enter Try.func8, Try.ntmps8
  go_upto_region 1 with fail
  rw [← hW1]
  clear hW1
  go_upto_region 4 with fail
  (refine wp_region_quiet_new (by kernel_rfl) (by kernel_rfl) ?_; (repeat (first | go_big_quiet_step (first | (go_at_call 11; exact NewW.call _ (hrm.out _ (NewW.is _)))) | quiet_step (first | (go_at_call 11; exact NewW.call _ (hrm.out _ (NewW.is _)))))); refine wpQuiet_nil ?_; rintro W2 ⟨⟨_, hn_W2⟩, rfl⟩)
  have hn2 := hn_W2
  have s0 := (hSH.out.new hn2).bk.cell 0
  have s2 := (hSH.out.new hn2).bk.cell 2
  simp at s0 s2
  have c1 := (hn2.cell (lt_of_cell c1)).trans c1
  obtain ⟨w7, hup, hS7, ha7, hb7⟩ := put_left base sb ob nb c s hSH.out hn2 hcl hnl.out (Bs.nil W2)
  have hr7 := Lib.hid (ha7.out.blk hr.out (hSH.out.apart hr.out (by decide)))
  clear k0 k1 hn2 hn_W2
  go_upto_region 7 with fail
  go_region_law (refine step_mapUpdate_run (by rfl) _ _ _ 47 (by rfl) _ _ _ (by rfl) (by rfl) (by rfl) hup ?_)
  all_goals
    obtain ⟨⟨r0, r1, r2, r3, r4⟩, ⟨y0, y1, y2, y3, y4⟩, hx⟩ := told_cells hr7.out
    go_wp2
    exact bodyPost_ret (by simp [results, Try.results8, go_sem, hx.out]) rfl (DoP.told (t := Td.no 0) hSH.out hNH.out hr.out (Nat.le_succ _) hS7.out (TdV.no _ _) ha7.out)
theorem do_list (hS : St base sb ob nb c s w) (hP : OkP s) (hC : CmOk w C R dc) (hk : C.kind = 6) :
    Calls Try.prog 8 #[ptr sb, cmV C drive keep R dc] w (DoP base sb ob nb c (doT s C).1 (doT s C).2 w) := by
  have e1 : doT s C = (⟨0, 0, By.none, s.ths.map (·.1)⟩, s) := by unfold doT; rw [if_neg (by omega), if_pos hk]
  rw [e1]
  clear e1
  obtain ⟨W1, hW1, hN1, hr, hcm, hz⟩ := cmd_mem (w := w) (cs := cmL C.kind C.name C.other C.off C.count drive keep R C.dn dc)
  obtain ⟨c0, c1, c2, c3, c4, c5, c6, c7⟩ := cmd_cells hcm.out
  rw [hk] at c0
  have hNH := Lib.hid hN1
  have hS1 := hS.new hN1
  have hSH := Lib.hid hS1
  have s0 := hS1.bk.cell 0
  simp at s0
  have hnm := Lib.hid (names_obj ob c s.ths W1 hS1.om (by have := hP.th.len; omega))
  clear hN1 hS hC hk hS1
  go_enter Try.func8, Try.ntmps8
  go_upto_region 1 with fail
  rw [← hW1]
  clear hW1
  go_wp2_with fail
  refine hnm.out.mono ?_
  rintro e w2 ⟨v, rfl, hN, hn2⟩
  obtain ⟨B, j, rfl, _⟩ := own_open hN
  obtain ⟨q, hq⟩ : ∃ q, q = (s.ths.map (·.1)).length := ⟨_, rfl⟩
  rw [← hq]
  have hN' : Ns w2 (.slice B q j) (s.ths.map (·.1)) := by rw [hq]; exact hN
  obtain ⟨⟨r0, r1, r2, r3, r4⟩, ⟨y0, y1, y2, y3, y4⟩, hx⟩ := told_cells (hr.out.new hn2)
  have hfin := Lib.hid (DoP.told (a0 := .int .i64 0) (a1 := .bool false) (a2 := .int .i64 0) (a3 := .slice none 0 0) (a4 := .slice B q j) (t := ⟨0, 0, By.none, s.ths.map (·.1)⟩) hSH.out hNH.out hr.out (Nat.le_succ _) ((hSH.out.new hn2).mono (Nat.le_succ _)) ⟨_, _, rfl, Bs.nil _, hN'⟩ (Alt.of_new hn2))
  clear hN hN' hn2 hq
  show _
  dsimp only
  go_wp2
  exact bodyPost_ret (by simp [results, Try.results8, go_sem, hx.out]) rfl hfin.out
end
end Go.Proofs.Ytmpaheaedaeakaa.pool
