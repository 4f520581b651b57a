/-
  Contract of (*State).snap: look, back, unsnap; all.
-/
import Derived.Test.YtmpaheaedaeakaaPoolSnap
namespace Go.Proofs.Ytmpaheaedaeakaa.pool
open Go.ChangeShapes Go.WideShapes Go.ChangeAt Go.RowKit Go.Proofs.Ytmpaheaedaeakaa.kit Go.Deep Go.Maps
set_option linter.unusedVariables false
set_option maxRecDepth 100000
theorem St.back2 {base sb ob nb c : Nat} {s : PS} {W2 : World} (h : St base sb ob nb c s W2) (hb : base ≤ W2.heap.size) {o : Obj} {l : Ths} (hm : MP (Bs W2) (W2.alloc o) W2.heap.size c l) : St base sb W2.heap.size nb c ⟨l, s.shs⟩ ((W2.alloc o).setCell ⟨sb, 0, none⟩ (.map (some W2.heap.size))) := by
  have ha : Alt (fun k => k = sb) W2 ((W2.alloc o).setCell ⟨sb, 0, none⟩ (.map (some W2.heap.size))) := Alt.set (K := fun k => k = sb) ((Alt.refl W2).alloc o) (.inl rfl) _
  have ha2 : Alt (fun k => k = sb) (W2.alloc o) ((W2.alloc o).setCell ⟨sb, 0, none⟩ (.map (some W2.heap.size))) := Alt.set (K := fun k => k = sb) (Alt.refl _) (.inl rfl) _
  have h1 : ∀ g cs, Blk W2 g 5 cs → ¬ g = sb := fun g cs hb' e => blk_ne' hb' h.bk (by decide) e
  have h2 : ∀ b, (∃ es k, W2.heap[b]? = some (.map es k)) → ¬ b = sb := fun b hm' e => blk_not_map h.bk hm' e
  have hsb := h.bk.lt
  have hnb := (h.lt (.inr (.inr rfl))).2
  refine ⟨(h.bk.alloc o).put 0 _, hm.alt ha2 (by omega) fun _ _ _ _ hv => hv.alt ha h1, h.nm.alt ha (h2 _ h.nm.obj) fun k y hy v hv => ?_, ⟨h.ge.1, hb, h.ge.2.2⟩, by omega⟩
  obtain ⟨b', e, h3, h4, h5, h6⟩ := hv
  have hlt := h6.lt
  exact ⟨b', e, by omega, h4, h5, h6.alt ha (h2 _ h6.obj) fun _ _ _ _ hv => hv.alt ha h1⟩
section
variable (base sb ob nb c : Nat) (s : PS) (C : Cm) (drive keep : Int) (R : Option Addr) (dc : Nat) (w : World)
theorem snp_none (hS : St base sb ob nb c s w) (hC : CmOk w C R dc) (hk : C.kind ≠ 7) (hg : get s.shs C.other = none) :
    Calls Try.prog 15 #[ptr sb, cmV C drive keep R dc] w (DoP base sb ob nb c (snapT s C).1 (snapT s C).2 w) := by
  have e1 : snapT s C = (Td.no 6, s) := by unfold snapT; rw [if_neg hk, hg]
  rw [e1]
  clear e1
  obtain ⟨W1, hW1, hN1, hr, hcm, hz⟩ := cmd_mem (w := w) (cs := cmL C.kind C.name C.other C.off C.count drive keep R C.dn dc)
  obtain ⟨c0, c1, c2, c3, c4, c5, c6, c7⟩ := cmd_cells hcm.out
  have hNH := Lib.hid hN1
  have hS1 := hS.new hN1
  have hSH := Lib.hid hS1
  have s1 := hS1.bk.cell 1
  simp at s1
  obtain ⟨x, hlk, _, _⟩ := (hS1.new (New.refl W1).drew).nm.look Try.underlying48 (zeroO _) hC.ol
  rw [hg, show (none : Option Ths).isSome = false from rfl] at hlk
  obtain ⟨nm, hnm⟩ : ∃ nm, Hid (nm = C.other) := ⟨_, rfl⟩
  rw [← hnm.out] at c2 hlk
  obtain ⟨k, hkk⟩ : ∃ k, Hid (k = C.kind) := ⟨_, rfl⟩
  rw [← hkk.out] at c0 hk
  clear hN1 hS hC hS1 hg
  go_enter Try.func15, Try.ntmps15
  go_upto_region 1 with fail
  rw [← hW1]
  clear hW1
  go_upto_region 6 with fail
  go_region
  go_wp2_with (go_at_call 12; refine (no_any 6 _).mono ?_; rintro e w2 ⟨rfl, hn2⟩; have hn2H := Lib.hid (New.next (New.refl W1).drew hn2); obtain ⟨⟨r0, r1, r2, r3, r4⟩, ⟨y0, y1, y2, y3, y4⟩, hx⟩ := told_cells (hr.out.new (New.next (New.refl W1).drew hn2)))
  exact bodyPost_ret (by simp [results, Try.results15, go_sem, hx.out]) rfl (DoP.told (t := Td.no 6) hSH.out hNH.out hr.out (Nat.le_succ _) ((hSH.out.new hn2H.out).mono (Nat.le_succ _)) (TdV.no _ _) (Alt.of_new hn2H.out))
theorem snp_back (hS : St base sb ob nb c s w) (hC : CmOk w C R dc) (hbase : base ≤ w.heap.size) {l : Ths} (hk : C.kind = 9) (hg : get s.shs C.other = some l) :
    Calls Try.prog 15 #[ptr sb, cmV C drive keep R dc] w (DoP base sb ob nb c (snapT s C).1 (snapT s C).2 w) := by
  have e1 : snapT s C = (Td.no 0, ⟨l, s.shs⟩) := by unfold snapT; rw [if_neg (by omega), hg]; show (if C.kind = 9 then _ else _) = _; rw [if_pos hk]
  rw [e1]
  clear e1
  obtain ⟨W1, hW1, hN1, hr, hcm, hz⟩ := cmd_mem (w := w) (cs := cmL C.kind C.name C.other C.off C.count drive keep R C.dn dc)
  obtain ⟨c0, c1, c2, c3, c4, c5, c6, c7⟩ := cmd_cells hcm.out
  rw [hk] at c0
  have hNH := Lib.hid hN1
  have hS1 := hS.new hN1
  have hSH := Lib.hid hS1
  have s1 := hS1.bk.cell 1
  simp at s1
  have hSd := hS1.new (New.refl W1).drew
  obtain ⟨x, hlk, hsome, _⟩ := hSd.nm.look Try.underlying48 (zeroO _) hC.ol
  obtain ⟨bb, rfl, _, _, _, hmb⟩ := hsome l hg
  rw [hg, show (some l : Option Ths).isSome = true from rfl] at hlk
  obtain ⟨es, kk, hcl, hmp⟩ := Clone_exact hmb
  have hcl2 := Lib.hid (hcl W1.drew rfl)
  have hmp2 := hmp W1.drew rfl
  have hS3 := hSd.back2 (by have := hN1.size; show base ≤ W1.heap.size; omega) hmp2
  have hN3 : New W1 (W1.drew.alloc (.map es kk)) := ((New.refl W1).drew).alloc _
  obtain ⟨p, hp⟩ : ∃ p, p = W1.drew.heap.size := ⟨_, rfl⟩
  rw [← hp] at hcl2 hS3
  obtain ⟨W3, hW3⟩ : ∃ W3, W3 = W1.drew.alloc (.map es kk) := ⟨_, rfl⟩
  rw [← hW3] at hcl2 hS3 hN3
  have t0 := (hS1.new hN3).bk.cell 0
  have t1 := (hS1.new hN3).bk.frozen 0
  simp at t0
  have d0 := (hN3.cell (lt_of_cell c0)).trans c0
  have ha3 : Hid (Alt (PK sb ob nb) W1 (W3.setCell ⟨sb, 0, none⟩ (.map (some p)))) := (Alt.of_new hN3).set (.inl (.inl rfl)) _
  have hr3 := Lib.hid (ha3.out.blk hr.out (hS1.apart hr.out (by decide)))
  have hS3H := Lib.hid (hS3.mono (Nat.le_succ c))
  obtain ⟨nm, hnm⟩ : ∃ nm, Hid (nm = C.other) := ⟨_, rfl⟩
  rw [← hnm.out] at c2 hlk
  clear hN1 hS hC hS1 hg hk hsome hmb hcl hmp hmp2 hS3 hSd hN3 hW3 hp
  go_enter Try.func15, Try.ntmps15
  go_upto_region 1 with fail
  rw [← hW1]
  clear hW1
  go_upto_region 6 with fail
  go_region
  go_wp2_with fail
  refine hcl2.out.mono ?_
  rintro e w2 ⟨rfl, rfl⟩
  show _
  dsimp only
  obtain ⟨W4, hW4⟩ : ∃ W4, Hid (W4 = w2.setCell ⟨sb, 0, none⟩ (.map (some p))) := ⟨_, rfl⟩
  rw [← hW4.out] at ha3 hr3 hS3H
  obtain ⟨⟨r0, r1, r2, r3, r4⟩, ⟨y0, y1, y2, y3, y4⟩, hx⟩ := told_cells hr3.out
  go_upto_region 19 with fail
  rw [← hW4.out]
  clear hW4 t0 t1 d0
  go_wp2
  exact bodyPost_ret (by simp [results, Try.results15, go_sem, hx.out]) rfl (DoP.told (t := Td.no 0) hSH.out hNH.out hr.out (Nat.le_succ _) hS3H.out (TdV.no _ _) ha3.out)
theorem snp_unsnap (hS : St base sb ob nb c s w) (hC : CmOk w C R dc) {l : Ths} (hk : C.kind = 10) (hg : get s.shs C.other = some l) :
    Calls Try.prog 15 #[ptr sb, cmV C drive keep R dc] w (DoP base sb ob nb c (snapT s C).1 (snapT s C).2 w) := by
  have e1 : snapT s C = (Td.no 0, ⟨s.ths, del s.shs C.other⟩) := by unfold snapT; rw [if_neg (by omega), hg]; show (if C.kind = 9 then _ else _) = _; rw [if_neg (by omega), if_pos hk]
  rw [e1]
  clear e1
  obtain ⟨W1, hW1, hN1, hr, hcm, hz⟩ := cmd_mem (w := w) (cs := cmL C.kind C.name C.other C.off C.count drive keep R C.dn dc)
  obtain ⟨c0, c1, c2, c3, c4, c5, c6, c7⟩ := cmd_cells hcm.out
  rw [hk] at c0
  have hNH := Lib.hid hN1
  have hS1 := hS.new hN1
  have hSH := Lib.hid hS1
  have s1 := hS1.bk.cell 1
  simp at s1
  have hSd := hS1.new (New.refl W1).drew
  obtain ⟨x, hlk, hsome, _⟩ := hSd.nm.look Try.underlying48 (zeroO _) hC.ol
  obtain ⟨bb, rfl, _, _, _, hmb⟩ := hsome l hg
  rw [hg, show (some l : Option Ths).isSome = true from rfl] at hlk
  have hSe := hSd.new (New.refl W1.drew).drew
  obtain ⟨w7, hdl, hg7, hm7⟩ := hSe.nm.del Try.underlying48 hC.ol (by rw [hg]; rfl) 0
  have hne : ∀ g cs t, Blk W1.drew.drew g t cs → ¬ (some nb = some g) := fun g cs t hb e => blk_not_map hb hSe.nm.obj (Option.some.inj e)
  have haE : Alt (fun j => some nb = some j) W1.drew.drew w7 := Alt.grown (Alt.refl _) hg7 fun r e => .inl e
  have hS7 := Lib.hid (hSe.snps hg7 (Nat.le_succ c) ((hm7 (Sn base ob nb (c + 1) w7) fun k y _ u hu => (hu.alt haE (fun g cs hb => hne g cs _ hb) fun b _ _ h2 _ e => h2 (Option.some.inj e).symm).mono (Nat.le_succ c)).mono (Nat.le_succ c)))
  have ha7 := Lib.hid (((Alt.refl W1).drew.drew).grown (K := PK sb ob nb) hg7 fun r e => .inl (.inr (.inr (Option.some.inj e).symm)))
  have hr7 := Lib.hid (ha7.out.blk hr.out (hS1.apart hr.out (by decide)))
  obtain ⟨nm, hnm⟩ : ∃ nm, Hid (nm = C.other) := ⟨_, rfl⟩
  rw [← hnm.out] at c2 hlk hdl
  clear hN1 hS hC hS1 hg hk hsome hmb hSd hSe hg7 hm7 hne haE
  go_enter Try.func15, Try.ntmps15
  go_upto_region 1 with fail
  rw [← hW1]
  clear hW1
  go_upto_region 6 with fail
  go_region
  go_upto_region 13 with fail
  go_region_law (refine step_delete_run (by rfl) _ _ 48 9 (by rfl) _ _ (by rfl) (by rfl) hdl ?_)
  all_goals
    obtain ⟨⟨r0, r1, r2, r3, r4⟩, ⟨y0, y1, y2, y3, y4⟩, hx⟩ := told_cells hr7.out
    go_wp2
    exact bodyPost_ret (by simp [results, Try.results15, go_sem, hx.out]) rfl (DoP.told (t := Td.no 0) hSH.out hNH.out hr.out (Nat.le_succ _) hS7.out (TdV.no _ _) ha7.out)
theorem snp_look (hS : St base sb ob nb c s w) (hP : OkP s) (hC : CmOk w C R dc) {l : Ths} (hk : C.kind = 8) (hg : get s.shs C.other = some l) :
    Calls Try.prog 15 #[ptr sb, cmV C drive keep R dc] w (DoP base sb ob nb c (snapT s C).1 (snapT s C).2 w) := by
  have e1 : snapT s C = (match get l C.name with | none => (Td.no 6, s) | some b => (fetchT b C.off C.count, s)) := by unfold snapT; rw [if_neg (by omega), hg]; show (if C.kind = 9 then _ else _) = _; rw [if_neg (by omega), if_neg (by omega)]; rfl
  rw [e1]
  clear e1
  obtain ⟨W1, hW1, hN1, hr, hcm, hz⟩ := cmd_mem (w := w) (cs := cmL C.kind C.name C.other C.off C.count drive keep R C.dn dc)
  obtain ⟨c0, c1, c2, c3, c4, c5, c6, c7⟩ := cmd_cells hcm.out
  rw [hk] at c0
  have hNH := Lib.hid hN1
  have hS1 := hS.new hN1
  have hSH := Lib.hid hS1
  have s1 := hS1.bk.cell 1
  simp at s1
  have hSd := hS1.new (New.refl W1).drew
  obtain ⟨x, hlk, hsome, _⟩ := hSd.nm.look Try.underlying48 (zeroO _) hC.ol
  obtain ⟨bb, rfl, _, _, _, hmb⟩ := hsome l hg
  rw [hg, show (some l : Option Ths).isSome = true from rfl] at hlk
  obtain ⟨x2, hlk2, hsome2, _⟩ := hmb.look Try.underlying47 (zeroF _) hC.nl
  have hokl := hP.sh _ (get_some hg)
  obtain ⟨nm, hnm⟩ : ∃ nm, Hid (nm = C.other) := ⟨_, rfl⟩
  obtain ⟨on, hon⟩ : ∃ on, Hid (on = C.name) := ⟨_, rfl⟩
  rw [← hnm.out] at c2 hlk
  rw [← hon.out] at c1 hlk2
  cases hb : get l C.name with
  | none =>
    rw [hon.out, hb, show (none : Option By).isSome = false from rfl, ← hon.out] at hlk2
    dsimp only
    clear hN1 hS hC hS1 hg hk hsome hmb hSd hsome2 hb
    go_enter Try.func15, Try.ntmps15
    go_upto_region 1 with fail
    rw [← hW1]
    clear hW1
    go_upto_region 6 with fail
    go_region
    go_wp2_with (go_at_call 12; refine (no_any 6 _).mono ?_; rintro e w2 ⟨rfl, hn2⟩; have hn2H := Lib.hid (New.next (New.refl W1).drew hn2); obtain ⟨⟨r0, r1, r2, r3, r4⟩, ⟨y0, y1, y2, y3, y4⟩, hx⟩ := told_cells (hr.out.new (New.next (New.refl W1).drew hn2)))
    exact bodyPost_ret (by simp [results, Try.results15, go_sem, hx.out]) rfl (DoP.told (t := Td.no 6) hSH.out hNH.out hr.out (Nat.le_succ _) ((hSH.out.new hn2H.out).mono (Nat.le_succ _)) (TdV.no _ _) (Alt.of_new hn2H.out))
  | some b =>
    rw [hon.out, hb, show (some b : Option By).isSome = true from rfl, ← hon.out] at hlk2
    dsimp only
    have hf := Lib.hid (fetch_any x2 b 8 C.name C.other C.off C.count drive keep R C.dn dc W1.drew (hsome2 b hb) (hokl.sz _ (get_some hb)) hC.o1 hC.c1)
    rw [← hnm.out, ← hon.out] at hf
    clear hN1 hS hC hS1 hg hk hsome hmb hSd hsome2 hb hokl
    go_enter Try.func15, Try.ntmps15
    go_upto_region 1 with fail
    rw [← hW1]
    clear hW1
    go_upto_region 6 with fail
    go_region
    go_wp2_with fail
    refine hf.out.mono ?_
    rintro e w2 ⟨u, rfl, hu, hn2'⟩
    have hn2 : New W1 w2 := New.next (New.refl W1).drew hn2'
    obtain ⟨A, n, k, B, m, j, hD⟩ := DoP.form (base := base) (sb := sb) (ob := ob) (nb := nb) (c := c) (s' := s) (W1 := W1) (w2 := w2) ⟨u, ob, nb, rfl, hu, (hSH.out.new hn2).mono (Nat.le_succ _), Alt.of_new hn2⟩
    cases hD
    obtain ⟨⟨r0, r1, r2, r3, r4⟩, ⟨y0, y1, y2, y3, y4⟩, hx⟩ := told_cells (hr.out.new hn2)
    have hfin := Lib.hid (DoP.told (t := fetchT b C.off C.count) hSH.out hNH.out hr.out (Nat.le_succ _) ((hSH.out.new hn2).mono (Nat.le_succ _)) hu (Alt.of_new hn2))
    clear hu hn2 hn2'
    show _
    dsimp only
    go_wp2
    exact bodyPost_ret (by simp [results, Try.results15, go_sem, hx.out]) rfl hfin.out
theorem snap_any (hS : St base sb ob nb c s w) (hP : OkP s) (hC : CmOk w C R dc) (hcl : c < maxLen) (hbase : base ≤ w.heap.size) (hk : C.kind = 7 ∨ C.kind = 8 ∨ C.kind = 9 ∨ C.kind = 10) :
    Calls Try.prog 15 #[ptr sb, cmV C drive keep R dc] w (DoP base sb ob nb c (snapT s C).1 (snapT s C).2 w) := by
  by_cases h7 : C.kind = 7
  · by_cases hr : roomT s.shs C.other 3 = 0
    · exact snp_put base sb ob nb c s C drive keep R dc w hS hP hC hcl hbase h7 hr
    · exact snp_full base sb ob nb c s C drive keep R dc w hS hP hC h7 hr
  · cases hg : get s.shs C.other with
    | none => exact snp_none base sb ob nb c s C drive keep R dc w hS hC h7 hg
    | some l =>
      rcases hk with hk | hk | hk | hk
      · exact absurd hk h7
      · exact snp_look base sb ob nb c s C drive keep R dc w hS hP hC hk hg
      · exact snp_back base sb ob nb c s C drive keep R dc w hS hC hbase hk hg
      · exact snp_unsnap base sb ob nb c s C drive keep R dc w hS hC hk hg
end
end Go.Proofs.Ytmpaheaedaeakaa.pool
