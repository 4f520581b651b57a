/-
  Contract of (*State).object: remove, store, cut; all.
-/
import Derived.Test.YtmpaheaedaeakaaPoolObj
namespace Go.Proofs.Ytmpaheaedaeakaa.pool
open Go.ChangeShapes Go.WideShapes Go.ChangeAt Go.RowKit Go.Proofs.Ytmpaheaedaeakaa.kit Go.Deep Go.Maps
set_option linter.unusedVariables false
set_option maxRecDepth 100000
section
variable (base sb ob nb c : Nat) (s : PS) (C : Cm) (drive keep : Int) (R : Option Addr) (dc : Nat) (v : Value) (b : By) (w : World)
theorem obj_remove (hS : St base sb ob nb c s w) (hC : CmOk w C R dc) (hk : C.kind = 5) (hg : get s.ths C.name = some b) :
    Calls Try.prog 16 #[ptr sb, v, cmV C drive keep R dc] w (DoP base sb ob nb c (thingT s b C).1 (thingT s b C).2 w) := by
  have e1 : thingT s b C = (Td.no 0, ⟨del s.ths C.name, s.shs⟩) := by unfold thingT; rw [if_neg (by omega), if_pos hk]
  rw [e1]
  clear e1
  obtain ⟨W1, hW1, hN1, hr, hcm, hz⟩ := cmd_mem (w := w) (cs := cmL C.kind C.name C.other C.off C.count drive keep R C.dn dc)
  obtain ⟨c0, c1, c2, c3, c4, c5, c6, c7⟩ := cmd_cells hcm.out
  rw [hk] at c0
  have hNH := Lib.hid hN1
  have hS1 := hS.new hN1
  have hSH := Lib.hid hS1
  have s0 := hS1.bk.cell 0
  simp at s0
  have hSd := hS1.new (New.refl W1).drew
  obtain ⟨w7, hdl, hg7, hm7⟩ := hSd.om.del Try.underlying47 hC.nl (by rw [hg]; rfl) 0
  have hS7 := Lib.hid (hSd.objs hg7 (Nat.le_succ c) ((hm7 (Bs w7) fun k y _ u hu => hu.grown hg7 fun g cs hb e => blk_not_map hb hSd.om.obj (Option.some.inj e)).mono (Nat.le_succ c)))
  have ha7 := Lib.hid ((Alt.refl W1).drew.grown (K := PK sb ob nb) hg7 fun r e => .inl (.inr (.inl (Option.some.inj e).symm)))
  have hr7 := Lib.hid (ha7.out.blk hr.out (hS1.apart hr.out (by decide)))
  obtain ⟨nm, hnm⟩ : ∃ nm, Hid (nm = C.name) := ⟨_, rfl⟩
  rw [← hnm.out] at c1 hdl
  clear hN1 hS hC hk hS1 hg hSd hg7 hm7
  go_enter Try.func16, Try.ntmps16
  go_upto_region 1 with fail
  rw [← hW1]
  clear hW1
  go_upto_region 6 with fail
  go_region_law (refine step_delete_run (by rfl) _ _ 47 9 (by rfl) _ _ (by rfl) (by rfl) hdl ?_)
  all_goals
    obtain ⟨⟨r0, r1, r2, r3, r4⟩, ⟨y0, y1, y2, y3, y4⟩, hx⟩ := told_cells hr7.out
    go_wp2
    exact bodyPost_ret (by simp [results, Try.results16, go_sem, hx.out]) rfl (DoP.told (t := Td.no 0) hSH.out hNH.out hr.out (Nat.le_succ _) hS7.out (TdV.no _ _) ha7.out)
/-- an object is put: what is left when its bytes have been made -/
theorem put_left {W1 w2 : World} {x : Nm} {u : Value} {y : By} (hS1 : St base sb ob nb c s W1) (hn : New W1 w2) (hc : c < maxLen) (hx : x.length ≤ maxLen) (hu : Bs w2 u y) :
    ∃ w7, (Instr.mapUpdate 47 (.map (some ob)) (encStr x) u).run Try.prog w2.drew = .ok () w7 ∧ Hid (St base sb ob nb (c + 1) ⟨put s.ths x y, s.shs⟩ w7) ∧ Hid (Alt (PK sb ob nb) W1 w7) ∧ Hid (Bs w7 u y) := by
  have hSd := hS1.new (hn.drew)
  obtain ⟨w7, hup, hg7, hm7⟩ := hSd.om.put Try.underlying47 hc hx u y
  have hb7 : ∀ u y, Bs w2.drew u y → Bs w7 u y := fun u y hu => hu.grown hg7 fun g cs hb e => blk_not_map hb hSd.om.obj (Option.some.inj e)
  have hu2 : Bs w2.drew u y := hu.new (New.refl w2).drew
  exact ⟨w7, hup, hSd.objs hg7 (Nat.le_succ c) (hm7 (Bs w7) (hb7 _ _ hu2) fun k y' _ u' hu' => hb7 _ _ hu'), (Alt.of_new hn).drew.grown hg7 fun r e => .inl (.inr (.inl (Option.some.inj e).symm)), hb7 _ _ hu2⟩
theorem obj_cut (hS : St base sb ob nb c s w) (hC : CmOk w C R dc) (hcl : c < maxLen) (hv : Bs w v b) (hb : b.n ≤ 1024) (hk : C.kind = 4) (ho : ¬ (C.count < 0 ∨ 1024 < C.count)) :
    Calls Try.prog 16 #[ptr sb, v, cmV C drive keep R dc] w (DoP base sb ob nb c (thingT s b C).1 (thingT s b C).2 w) := by
  have e1 : thingT s b C = (⟨0, C.count.toNat, By.none, []⟩, ⟨put s.ths C.name (sizeB b C.count.toNat), s.shs⟩) := by unfold thingT; rw [if_neg (by omega), if_neg (by omega), if_neg (by omega), if_neg ho]
  rw [e1]
  clear e1
  obtain ⟨W1, hW1, hN1, hr, hcm, hz⟩ := cmd_mem (w := w) (cs := cmL C.kind C.name C.other C.off C.count drive keep R C.dn dc)
  obtain ⟨c0, c1, c2, c3, c4, c5, c6, c7⟩ := cmd_cells hcm.out
  rw [hk] at c0
  obtain ⟨m, hm⟩ : ∃ m : Nat, C.count = m := ⟨C.count.toNat, by omega⟩
  have hm2 : m ≤ 1024 := by omega
  rw [hm] at c4
  rw [show C.count.toNat = m by omega]
  have a1 : ¬ (m : Int) < 0 := by omega
  have a2 : ¬ (1024 : Int) < (m : Int) := by omega
  have hNH := Lib.hid hN1
  have hS1 := hS.new hN1
  have hSH := Lib.hid hS1
  have hcmw := Lib.hid hcm.out
  have hrs := Lib.hid (Resize_any v b m W1 (hv.new hN1) hb hm2)
  obtain ⟨nm, hnm⟩ : ∃ nm, Hid (nm = C.name) := ⟨_, rfl⟩
  have hnl := Lib.hid hC.nl
  rw [← hnm.out] at c1 hnl ⊢
  clear hN1 hS hC hk hS1 ho hm hv
  go_enter Try.func16, Try.ntmps16
  go_upto_region 1 with fail
  rw [← hW1]
  clear hW1
  go_wp2_with fail
  refine hrs.out.mono ?_
  rintro e w2 ⟨A, k, rfl, hu, hn2⟩
  have s0 := (hSH.out.new hn2).bk.cell 0
  simp at s0
  have d1 := (hn2.cell (lt_of_cell c1)).trans c1
  obtain ⟨w7, hup, hS7, ha7, hb7⟩ := put_left base sb ob nb c s hSH.out hn2 hcl hnl.out hu
  have hsz := Lib.hid (Size_any (.slice A m k) (sizeB b m) w7 hb7.out)
  have hr7 := Lib.hid (ha7.out.blk hr.out (hSH.out.apart hr.out (by decide)))
  clear hu hn2 hrs
  show _
  dsimp only
  go_upto_region 21 with fail
  go_region_law (refine step_mapUpdate_run (by rfl) _ _ _ 47 (by rfl) _ _ _ (by rfl) (by rfl) (by rfl) hup ?_)
  all_goals
    obtain ⟨⟨r0, r1, r2, r3, r4⟩, ⟨y0, y1, y2, y3, y4⟩, hx⟩ := told_cells hr7.out
    go_wp2_with (go_at_call 79; refine hsz.out.mono ?_; rintro e w8 ⟨rfl, rfl⟩)
    exact bodyPost_ret (by simp [results, Try.results16, go_sem, hx.out]) rfl (DoP.told (t := ⟨0, m, By.none, []⟩) hSH.out hNH.out hr.out (Nat.le_succ _) hS7.out ⟨_, _, rfl, Bs.nil _, Ns.nil _⟩ ha7.out)
set_option maxHeartbeats 2000000 in
theorem obj_store (hS : St base sb ob nb c s w) (hC : CmOk w C R dc) (hcl : c < maxLen) (hv : Bs w v b) (hb : b.n ≤ 1024) (hk : C.kind = 2) (hd : ¬ (C.dn = 0 ∨ 400 < C.dn)) (ho : ¬ (C.off < 0 ∨ 1024 - (C.dn : Int) < C.off)) :
    Calls Try.prog 16 #[ptr sb, v, cmV C drive keep R dc] w (DoP base sb ob nb c (thingT s b C).1 (thingT s b C).2 w) := by
  have e1 : thingT s b C = (⟨0, (writeB b C.off.toNat C.dn C.df).n, By.none, []⟩, ⟨put s.ths C.name (writeB b C.off.toNat C.dn C.df), s.shs⟩) := by unfold thingT; rw [if_neg (by omega), if_neg (by omega), if_pos hk, if_neg hd, if_neg ho]
  rw [e1]
  clear e1
  obtain ⟨W1, hW1, hN1, hr, hcm, hz⟩ := cmd_mem (w := w) (cs := cmL C.kind C.name C.other C.off C.count drive keep R C.dn dc)
  obtain ⟨c0, c1, c2, c3, c4, c5, c6, c7⟩ := cmd_cells hcm.out
  rw [hk] at c0
  obtain ⟨off, hof⟩ : ∃ off : Nat, C.off = off := ⟨C.off.toNat, by omega⟩
  rw [hof] at c3
  rw [show C.off.toNat = off by omega]
  have hoff : off + C.dn ≤ 1024 := by omega
  have hd1 : 1 ≤ C.dn := by omega
  have hNH := Lib.hid hN1
  have hS1 := hS.new hN1
  have hSH := Lib.hid hS1
  have hwr := Lib.hid (Write_any v b off C.dn dc R C.df W1 (hv.new hN1) hb hd1 hoff (hC.new hN1).dat)
  obtain ⟨nm, hnm⟩ : ∃ nm, Hid (nm = C.name) := ⟨_, rfl⟩
  have hnl := Lib.hid hC.nl
  obtain ⟨y, hy⟩ : ∃ y, Hid (y = writeB b off C.dn C.df) := ⟨_, rfl⟩
  rw [← hy.out] at hwr ⊢
  obtain ⟨dn, hdn⟩ : ∃ dn, Hid (dn = C.dn) := ⟨_, rfl⟩
  obtain ⟨yn, hyn⟩ : ∃ yn, Hid (yn = y.n) := ⟨_, rfl⟩
  rw [← hyn.out] at hwr ⊢
  rw [← hnm.out] at c1 hnl ⊢
  rw [← hdn.out] at c7 hoff hd1 hwr hd
  have a0 : ¬ dn = 0 := by omega
  have a0' : ¬ (dn : Int) = 0 := by omega
  have a1' : ¬ (400 : Int) < (dn : Int) := by omega
  have a2 : ¬ (off : Int) < 0 := by omega
  have a3 : ¬ 1024 - (dn : Int) < (off : Int) := by omega
  clear hN1 hS hC hk hS1 ho hof hv hd
  go_enter Try.func16, Try.ntmps16
  go_upto_region 1 with fail
  rw [← hW1]
  clear hW1
  go_wp2_with fail
  refine hwr.out.mono ?_
  rintro e w2 ⟨A, k, rfl, hu, hn2⟩
  have s0 := (hSH.out.new hn2).bk.cell 0
  simp at s0
  have d1 := (hn2.cell (lt_of_cell c1)).trans c1
  obtain ⟨w7, hup, hS7, ha7, hb7⟩ := put_left base sb ob nb c s hSH.out hn2 hcl hnl.out hu
  have hsz := Lib.hid (Size_any (.slice A yn k) y w7 hb7.out)
  rw [← hyn.out] at hsz
  have hr7 := Lib.hid (ha7.out.blk hr.out (hSH.out.apart hr.out (by decide)))
  clear hu hn2 hwr
  show _
  dsimp only
  go_upto_region 21 with fail
  go_region_law (refine step_mapUpdate_run (by rfl) _ _ _ 47 (by rfl) _ _ _ (by rfl) (by rfl) (by rfl) hup ?_)
  all_goals
    obtain ⟨⟨r0, r1, r2, r3, r4⟩, ⟨y0, y1, y2, y3, y4⟩, hx⟩ := told_cells hr7.out
    go_wp2_with (go_at_call 79; refine hsz.out.mono ?_; rintro e w8 ⟨rfl, rfl⟩)
    exact bodyPost_ret (by simp [results, Try.results16, go_sem, hx.out]) rfl (DoP.told (t := ⟨0, yn, By.none, []⟩) hSH.out hNH.out hr.out (Nat.le_succ _) hS7.out ⟨_, _, rfl, Bs.nil _, Ns.nil _⟩ ha7.out)
theorem object_any (hS : St base sb ob nb c s w) (hC : CmOk w C R dc) (hcl : c < maxLen) (hv : Bs w v b) (hb : b.n ≤ 1024) (hk : C.kind = 2 ∨ C.kind = 3 ∨ C.kind = 4 ∨ C.kind = 5) (hg : get s.ths C.name = some b) :
    Calls Try.prog 16 #[ptr sb, v, cmV C drive keep R dc] w (DoP base sb ob nb c (thingT s b C).1 (thingT s b C).2 w) := by
  rcases hk with hk | hk | hk | hk
  · by_cases hd : C.dn = 0 ∨ 400 < C.dn
    · exact obj_store_size base sb ob nb c s C drive keep R dc v b w hS hC hk hd
    · by_cases ho : C.off < 0 ∨ 1024 - (C.dn : Int) < C.off
      · exact obj_store_range base sb ob nb c s C drive keep R dc v b w hS hC hk hd ho
      · exact obj_store base sb ob nb c s C drive keep R dc v b w hS hC hcl hv hb hk hd ho
  · exact obj_fetch base sb ob nb c s C drive keep R dc v b w hS hC hv hb hk
  · by_cases ho : C.count < 0 ∨ 1024 < C.count
    · exact obj_cut_range base sb ob nb c s C drive keep R dc v b w hS hC hk ho
    · exact obj_cut base sb ob nb c s C drive keep R dc v b w hS hC hcl hv hb hk ho
  · exact obj_remove base sb ob nb c s C drive keep R dc v b w hS hC hk hg
end
end Go.Proofs.Ytmpaheaedaeakaa.pool
