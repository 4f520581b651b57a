/-
  Contract of (*State).object.
-/
import Derived.Test.YtmpaheaedaeakaaPoolState
namespace Go.Proofs.Ytmpaheaedaeakaa.pool
open Go.ChangeShapes Go.WideShapes Go.ChangeAt Go.RowKit Go.Proofs.Ytmpaheaedaeakaa.kit Go.Deep Go.Maps
set_option linter.unusedVariables false
set_option maxRecDepth 100000
theorem step_delete_run {P : Program} {ops : Array Oper} {o : Oper} {a : Act} {K : Act → World → Prop} {Q : Exit → Act → World → Prop} {E : Prop} {w w' : World} (hgd : o.guard = none) (m x : Operand) (t k : TypeId)
    (ho : o.op = .call { callee := .builtin .delete, args := #[m, x], argTypes := #[t, k] }) (mv xv : Value) (hm : a.eval m = mv) (hx : a.eval x = xv) (hr : (Builtin.delete_ #[t, k] o.type #[mv, xv]).run P w = .ok (.tuple #[]) w')
    (h : K (a.put o.dst (.tuple #[])) w') : if Region.wanted o (yielded ops a.tmps) = true then Oper.wp P o a w K Q else E := by
  have hw : Region.wanted o (yielded ops a.tmps) = true := by simp [Region.wanted, hgd]
  rw [if_pos hw]
  unfold Oper.wp execOp
  simp only [ho, resolve, invoke, builtin, Sem.run_bind, Sem.run_pure, Result.andThen_ok, List.map_toArray, List.map_cons, List.map_nil, hm, hx, hr]
  exact h
theorem step_mapUpdate_run {P : Program} {ops : Array Oper} {o : Oper} {a : Act} {K : Act → World → Prop} {Q : Exit → Act → World → Prop} {E : Prop} {w w' : World} (hgd : o.guard = none) (m x v : Operand) (t : TypeId)
    (hop : o.op = Op.mapUpdate t m x v) (mv key val : Value) (hm : a.eval m = mv) (hx : a.eval x = key) (hv : a.eval v = val) (hrun : (Instr.mapUpdate t mv key val).run P w = .ok () w')
    (h : K (a.put o.dst undef) w') : if Region.wanted o (yielded ops a.tmps) = true then Oper.wp P o a w K Q else E := by
  have hw : Region.wanted o (yielded ops a.tmps) = true := by simp [Region.wanted, hgd]
  rw [if_pos hw]
  unfold Oper.wp
  simp [execOp, hop, hm, hx, hv, hrun, Result.andThen]
  exact h
section
variable (base sb ob nb c : Nat) (s : PS) (C : Cm) (drive keep : Int) (R : Option Addr) (dc : Nat) (v : Value) (b : By) (w : World)
theorem obj_fetch (hS : St base sb ob nb c s w) (hC : CmOk w C R dc) (hv : Bs w v b) (hb : b.n ≤ 1024) (hk : C.kind = 3) :
    Calls Try.prog 16 #[ptr sb, v, cmV C drive keep R dc] w (DoP base sb ob nb c (thingT s b C).1 (thingT s b C).2 w) := by
  have e1 : thingT s b C = (fetchT b C.off C.count, s) := by unfold thingT; rw [if_pos hk]
  rw [e1]
  clear e1
  obtain ⟨W1, hW1, hN1, hr, hcm, hz⟩ := cmd_mem (w := w) (cs := cmL C.kind C.name C.other C.off C.count drive keep R C.dn dc)
  obtain ⟨c0, c1, c2, c3, c4, c5, c6, c7⟩ := cmd_cells hcm.out
  have hf := Lib.hid (fetch_any v b 3 C.name C.other C.off C.count drive keep R C.dn dc W1 (hv.new hN1) hb hC.o1 hC.c1)
  rw [hk] at c0
  have hNH := Lib.hid hN1
  have hSH := Lib.hid (hS.new hN1)
  clear hN1 hS hv hC hk
  go_enter Try.func16, Try.ntmps16
  go_upto_region 1 with fail
  rw [← hW1]
  clear hW1
  go_wp2_with fail
  refine hf.out.mono ?_
  rintro e w2 ⟨u, rfl, hu, hn2⟩
  obtain ⟨A, n, k, B, m, j, hD⟩ := DoP.form (base := base) (sb := sb) (ob := ob) (nb := nb) (c := c) (s' := s) (W1 := W1) (w2 := w2) ⟨u, ob, nb, rfl, hu, (hSH.out.new hn2).mono (Nat.le_succ _), Alt.of_new hn2⟩
  cases hD
  obtain ⟨⟨r0, r1, r2, r3, r4⟩, ⟨y0, y1, y2, y3, y4⟩, hx⟩ := told_cells (hr.out.new hn2)
  have hfin := Lib.hid (DoP.told (t := fetchT b C.off C.count) hSH.out hNH.out hr.out (Nat.le_succ _) ((hSH.out.new hn2).mono (Nat.le_succ _)) hu (Alt.of_new hn2))
  clear hu hn2
  show _
  dsimp only
  go_wp2
  exact bodyPost_ret (by simp [results, Try.results16, go_sem, hx.out]) rfl hfin.out
theorem obj_store_size (hS : St base sb ob nb c s w) (hC : CmOk w C R dc) (hk : C.kind = 2) (hd : C.dn = 0 ∨ 400 < C.dn) :
    Calls Try.prog 16 #[ptr sb, v, cmV C drive keep R dc] w (DoP base sb ob nb c (thingT s b C).1 (thingT s b C).2 w) := by
  have e1 : thingT s b C = (Td.no 1, s) := by unfold thingT; rw [if_neg (by omega), if_neg (by omega), if_pos hk, if_pos hd]
  rw [e1]
  clear e1
  obtain ⟨W1, hW1, hN1, hr, hcm, hz⟩ := cmd_mem (w := w) (cs := cmL C.kind C.name C.other C.off C.count drive keep R C.dn dc)
  obtain ⟨c0, c1, c2, c3, c4, c5, c6, c7⟩ := cmd_cells hcm.out
  rw [hk] at c0
  have hNH := Lib.hid hN1
  have hS1 := hS.new hN1
  have hSH := Lib.hid hS1
  have hC1 := Lib.hid (hC.new hN1)
  have hdm := hC1.out.dat.1
  unfold maxLen at hdm
  obtain ⟨dn, hdn⟩ : ∃ dn, Hid (dn = C.dn) := ⟨_, rfl⟩
  rw [← hdn.out] at c7 hd hdm
  clear hN1 hS hC hk hS1
  go_enter Try.func16, Try.ntmps16
  go_upto_region 1 with fail
  rw [← hW1]
  clear hW1
  by_cases h0 : dn = 0
  · subst h0
    go_wp2_with (go_at_call 12; refine (no_any 1 _).mono ?_; rintro e w2 ⟨rfl, hn2⟩; have hn2H := Lib.hid hn2; obtain ⟨⟨r0, r1, r2, r3, r4⟩, ⟨y0, y1, y2, y3, y4⟩, hx⟩ := told_cells (hr.out.new hn2))
    exact bodyPost_ret (by simp [results, Try.results16, go_sem, hx.out]) rfl (DoP.told (t := Td.no 1) hSH.out hNH.out hr.out (Nat.le_succ _) ((hSH.out.new hn2H.out).mono (Nat.le_succ _)) (TdV.no _ _) (Alt.of_new hn2H.out))
  · have h0' : ¬ (dn : Int) = 0 := by omega
    have h1' : (400 : Int) < (dn : Int) := by omega
    go_wp2_with (go_at_call 12; refine (no_any 1 _).mono ?_; rintro e w2 ⟨rfl, hn2⟩; have hn2H := Lib.hid hn2; obtain ⟨⟨r0, r1, r2, r3, r4⟩, ⟨y0, y1, y2, y3, y4⟩, hx⟩ := told_cells (hr.out.new hn2))
    exact bodyPost_ret (by simp [results, Try.results16, go_sem, hx.out]) rfl (DoP.told (t := Td.no 1) hSH.out hNH.out hr.out (Nat.le_succ _) ((hSH.out.new hn2H.out).mono (Nat.le_succ _)) (TdV.no _ _) (Alt.of_new hn2H.out))
theorem obj_store_range (hS : St base sb ob nb c s w) (hC : CmOk w C R dc) (hk : C.kind = 2) (hd : ¬ (C.dn = 0 ∨ 400 < C.dn)) (ho : C.off < 0 ∨ 1024 - (C.dn : Int) < C.off) :
    Calls Try.prog 16 #[ptr sb, v, cmV C drive keep R dc] w (DoP base sb ob nb c (thingT s b C).1 (thingT s b C).2 w) := by
  have e1 : thingT s b C = (Td.no 2, s) := by unfold thingT; rw [if_neg (by omega), if_neg (by omega), if_pos hk, if_neg hd, if_pos ho]
  rw [e1]
  clear e1
  obtain ⟨W1, hW1, hN1, hr, hcm, hz⟩ := cmd_mem (w := w) (cs := cmL C.kind C.name C.other C.off C.count drive keep R C.dn dc)
  obtain ⟨c0, c1, c2, c3, c4, c5, c6, c7⟩ := cmd_cells hcm.out
  rw [hk] at c0
  have hNH := Lib.hid hN1
  have hS1 := hS.new hN1
  have hSH := Lib.hid hS1
  have hC1 := Lib.hid (hC.new hN1)
  have ho1 := hC.o1
  obtain ⟨dn, hdn⟩ : ∃ dn, Hid (dn = C.dn) := ⟨_, rfl⟩
  obtain ⟨off, hof⟩ : ∃ off, Hid (off = C.off) := ⟨_, rfl⟩
  rw [← hdn.out] at c7 hd ho
  rw [← hof.out] at c3 ho ho1
  have h0' : ¬ (dn : Int) = 0 := by omega
  have h00 : ¬ dn = 0 := by omega
  have h1' : ¬ (400 : Int) < (dn : Int) := by omega
  clear hN1 hS hC hk hS1 hd
  go_enter Try.func16, Try.ntmps16
  go_upto_region 1 with fail
  rw [← hW1]
  clear hW1
  by_cases h0 : off < 0
  · skip
    go_wp2_with (go_at_call 12; refine (no_any 2 _).mono ?_; rintro e w2 ⟨rfl, hn2⟩; have hn2H := Lib.hid hn2; obtain ⟨⟨r0, r1, r2, r3, r4⟩, ⟨y0, y1, y2, y3, y4⟩, hx⟩ := told_cells (hr.out.new hn2))
    exact bodyPost_ret (by simp [results, Try.results16, go_sem, hx.out]) rfl (DoP.told (t := Td.no 2) hSH.out hNH.out hr.out (Nat.le_succ _) ((hSH.out.new hn2H.out).mono (Nat.le_succ _)) (TdV.no _ _) (Alt.of_new hn2H.out))
  · have h2' : 1024 - (dn : Int) < off := by omega
    go_wp2_with (go_at_call 12; refine (no_any 2 _).mono ?_; rintro e w2 ⟨rfl, hn2⟩; have hn2H := Lib.hid hn2; obtain ⟨⟨r0, r1, r2, r3, r4⟩, ⟨y0, y1, y2, y3, y4⟩, hx⟩ := told_cells (hr.out.new hn2))
    exact bodyPost_ret (by simp [results, Try.results16, go_sem, hx.out]) rfl (DoP.told (t := Td.no 2) hSH.out hNH.out hr.out (Nat.le_succ _) ((hSH.out.new hn2H.out).mono (Nat.le_succ _)) (TdV.no _ _) (Alt.of_new hn2H.out))
theorem obj_cut_range (hS : St base sb ob nb c s w) (hC : CmOk w C R dc) (hk : C.kind = 4) (ho : C.count < 0 ∨ 1024 < C.count) :
    Calls Try.prog 16 #[ptr sb, v, cmV C drive keep R dc] w (DoP base sb ob nb c (thingT s b C).1 (thingT s b C).2 w) := by
  have e1 : thingT s b C = (Td.no 2, s) := by unfold thingT; rw [if_neg (by omega), if_neg (by omega), if_neg (by omega), if_pos ho]
  rw [e1]
  clear e1
  obtain ⟨W1, hW1, hN1, hr, hcm, hz⟩ := cmd_mem (w := w) (cs := cmL C.kind C.name C.other C.off C.count drive keep R C.dn dc)
  obtain ⟨c0, c1, c2, c3, c4, c5, c6, c7⟩ := cmd_cells hcm.out
  rw [hk] at c0
  have hNH := Lib.hid hN1
  have hS1 := hS.new hN1
  have hSH := Lib.hid hS1
  have hC1 := Lib.hid (hC.new hN1)
  have ho1 := hC.c1
  obtain ⟨count, hof⟩ : ∃ count, Hid (count = C.count) := ⟨_, rfl⟩
  rw [← hof.out] at c4 ho ho1
  clear hN1 hS hC hk hS1
  go_enter Try.func16, Try.ntmps16
  go_upto_region 1 with fail
  rw [← hW1]
  clear hW1
  by_cases h0 : count < 0
  · skip
    go_wp2_with (go_at_call 12; refine (no_any 2 _).mono ?_; rintro e w2 ⟨rfl, hn2⟩; have hn2H := Lib.hid hn2; obtain ⟨⟨r0, r1, r2, r3, r4⟩, ⟨y0, y1, y2, y3, y4⟩, hx⟩ := told_cells (hr.out.new hn2))
    exact bodyPost_ret (by simp [results, Try.results16, go_sem, hx.out]) rfl (DoP.told (t := Td.no 2) hSH.out hNH.out hr.out (Nat.le_succ _) ((hSH.out.new hn2H.out).mono (Nat.le_succ _)) (TdV.no _ _) (Alt.of_new hn2H.out))
  · have h2' : 1024 < count := by omega
    go_wp2_with (go_at_call 12; refine (no_any 2 _).mono ?_; rintro e w2 ⟨rfl, hn2⟩; have hn2H := Lib.hid hn2; obtain ⟨⟨r0, r1, r2, r3, r4⟩, ⟨y0, y1, y2, y3, y4⟩, hx⟩ := told_cells (hr.out.new hn2))
    exact bodyPost_ret (by simp [results, Try.results16, go_sem, hx.out]) rfl (DoP.told (t := Td.no 2) hSH.out hNH.out hr.out (Nat.le_succ _) ((hSH.out.new hn2H.out).mono (Nat.le_succ _)) (TdV.no _ _) (Alt.of_new hn2H.out))
end
end Go.Proofs.Ytmpaheaedaeakaa.pool
