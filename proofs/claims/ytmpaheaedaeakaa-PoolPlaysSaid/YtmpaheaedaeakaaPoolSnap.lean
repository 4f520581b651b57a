/-
  Contract of (*State).snap.
-/
import Derived.Test.YtmpaheaedaeakaaPoolObj2
namespace Go.Proofs.Ytmpaheaedaeakaa.pool
open Go.ChangeShapes Go.WideShapes Go.ChangeAt Go.RowKit Go.Proofs.Ytmpaheaedaeakaa.kit Go.Deep Go.Maps
set_option linter.unusedVariables false
set_option maxRecDepth 100000
theorem Clone_exact {α : Type} {rd : Value → α → Prop} {w : World} {b c : Nat} {l : List (Nm × α)} (h : MP rd w b c l) : ∃ es k, (∀ d : World, d.heap = w.heap → Calls Try.prog 30 #[.map (some b)] d fun e w' => e = .returned (.map (some w.heap.size)) ∧ w' = d.alloc (.map es k)) ∧ ∀ d : World, d.heap = w.heap → MP rd (d.alloc (.map es k)) w.heap.size c l := by
  obtain ⟨hs, D, ⟨es, k, hb, F, hsz, hD⟩, h2, h3, h4⟩ := h
  refine ⟨es, k, fun d hd => ?_, fun d hd => ⟨hs, D, ⟨es, k, ?_, F, hsz, hD⟩, h2, h3, h4⟩⟩
  · have := AnyW.maps_Clone clone30 b es k d (by rw [hd]; exact hb)
    rw [show w.heap.size = d.heap.size by rw [hd]]
    exact this
  · rw [← hd]
    exact heap_alloc_new d _
section
variable (base sb ob nb c : Nat) (s : PS) (C : Cm) (drive keep : Int) (R : Option Addr) (dc : Nat) (w : World)
theorem snp_full (hS : St base sb ob nb c s w) (hP : OkP s) (hC : CmOk w C R dc) (hk : C.kind = 7) (hr0 : roomT s.shs C.other 3 ≠ 0) :
    Calls Try.prog 15 #[ptr sb, cmV C drive keep R dc] w (DoP base sb ob nb c (snapT s C).1 (snapT s C).2 w) := by
  have e1 : snapT s C = (Td.no (roomT s.shs C.other 3), s) := by unfold snapT; rw [if_pos hk, if_neg hr0]
  rw [e1]
  clear e1
  obtain ⟨W1, hW1, hN1, hr, hcm, hz⟩ := cmd_mem (w := w) (cs := cmL C.kind C.name C.other C.off C.count drive keep R C.dn dc)
  obtain ⟨c0, c1, c2, c3, c4, c5, c6, c7⟩ := cmd_cells hcm.out
  rw [hk] at c0
  have hNH := Lib.hid hN1
  have hS1 := hS.new hN1
  have hSH := Lib.hid hS1
  have s1 := hS1.bk.cell 1
  simp at s1
  have hrm : Hid (∀ w', New W1 w' → Calls Try.prog 29 #[.map (some nb), encStr C.other, .int .i64 3] w' fun e w'' => e = .returned (.int .i64 (roomT s.shs C.other 3)) ∧ New w' w'') := fun w' hn => room_snp nb c 3 C.other s.shs w' (hS1.new hn).nm hC.ol (by omega) (by have := hP.len; omega)
  obtain ⟨cd, hcd⟩ : ∃ cd, Hid (cd = roomT s.shs C.other 3) := ⟨_, rfl⟩
  rw [← hcd.out] at hrm hr0 ⊢
  obtain ⟨nm, hnm⟩ : ∃ nm, Hid (nm = C.other) := ⟨_, rfl⟩
  rw [← hnm.out] at c2 hrm
  have k0 := NewW.keep c2
  have k1 := NewW.keep s1
  clear hN1 hS hC hk hS1
  go_enter Try.func15, Try.ntmps15
  go_upto_region 1 with fail
  rw [← hW1]
  clear hW1
  go_upto_region 2 with fail
  (refine wp_region_quiet_new (by kernel_rfl) (by kernel_rfl) ?_; (repeat (first | go_big_quiet_step (first | (go_at_call 29; exact NewW.call _ (hrm.out _ (NewW.is _)))) | quiet_step (first | (go_at_call 29; exact NewW.call _ (hrm.out _ (NewW.is _)))))); refine wpQuiet_nil ?_; rintro W2 ⟨⟨_, hn_W2⟩, rfl⟩)
  have hn2 := Lib.hid hn_W2
  clear k0 k1
  go_wp2_with (go_at_call 12; refine (no_any cd _).mono ?_; rintro e w2 ⟨rfl, hn3⟩; have hn3H := Lib.hid (hn2.out.next hn3); obtain ⟨⟨r0, r1, r2, r3, r4⟩, ⟨y0, y1, y2, y3, y4⟩, hx⟩ := told_cells (hr.out.new (hn2.out.next hn3)))
  exact bodyPost_ret (by simp [results, Try.results15, go_sem, hx.out]) rfl (DoP.told (t := Td.no cd) hSH.out hNH.out hr.out (Nat.le_succ _) ((hSH.out.new hn3H.out).mono (Nat.le_succ _)) (TdV.no _ _) (Alt.of_new hn3H.out))
/-- a snapshot is put: what is left when it has been made -/
theorem snap_left {W2 : World} {x : Nm} (hS2 : St base sb ob nb c s W2) (hc : c < maxLen) (hx : x.length ≤ maxLen) (hbase : base ≤ W2.heap.size) :
    ∃ es k w7, (∀ d : World, d.heap = W2.heap → Calls Try.prog 30 #[.map (some ob)] d fun e w' => e = .returned (.map (some W2.heap.size)) ∧ w' = d.alloc (.map es k)) ∧ New W2 (W2.alloc (.map es k)).drew ∧
      (Instr.mapUpdate 48 (.map (some nb)) (encStr x) (.map (some W2.heap.size))).run Try.prog (W2.alloc (.map es k)).drew = .ok () w7 ∧ Hid (St base sb ob nb (c + 1) ⟨s.ths, put s.shs x s.ths⟩ w7) ∧ Hid (Alt (PK sb ob nb) W2 w7) := by
  obtain ⟨es, k, hcall, hmp⟩ := Clone_exact hS2.om
  have hn3 : New W2 (W2.alloc (.map es k)).drew := ((New.refl W2).alloc _).drew
  have hS3 := hS2.new hn3
  have hm3 : MP (Bs (W2.alloc (.map es k)).drew) (W2.alloc (.map es k)).drew W2.heap.size c s.ths := (hmp W2.drew rfl).weak fun _ _ _ _ hu => hu.new hn3
  obtain ⟨w7, hup, hg7, hm7⟩ := hS3.nm.put Try.underlying48 hc hx (.map (some W2.heap.size)) s.ths
  have ha : Alt (fun j => some nb = some j) (W2.alloc (.map es k)).drew w7 := Alt.grown (Alt.refl _) hg7 fun r e => .inl e
  have hne : ∀ g cs t, Blk (W2.alloc (.map es k)).drew g t cs → ¬ (some nb = some g) := fun g cs t hb e => blk_not_map hb hS3.nm.obj (Option.some.inj e)
  have hnb := (hS2.lt (.inr (.inr rfl))).2
  have hob := (hS2.lt (.inr (.inl rfl))).2
  refine ⟨es, k, w7, hcall, hn3, hup, hS3.snps hg7 (Nat.le_succ c) (hm7 (Sn base ob nb (c + 1) w7) ⟨W2.heap.size, rfl, by omega, by omega, hbase, (hm3.alt ha (fun e => by have := Option.some.inj e; omega) fun _ _ _ _ hu => hu.alt ha fun g cs hb => hne g cs _ hb).mono (Nat.le_succ c)⟩ fun _ y _ u hu => (hu.alt ha (fun g cs hb => hne g cs _ hb) fun b _ _ h2 _ e => h2 (Option.some.inj e).symm).mono (Nat.le_succ c)), (Alt.of_new hn3).grown hg7 fun r e => .inl (.inr (.inr (Option.some.inj e).symm))⟩
set_option maxHeartbeats 1000000 in
theorem snp_put (hS : St base sb ob nb c s w) (hP : OkP s) (hC : CmOk w C R dc) (hcl : c < maxLen) (hbase : base ≤ w.heap.size) (hk : C.kind = 7) (hr0 : roomT s.shs C.other 3 = 0) :
    Calls Try.prog 15 #[ptr sb, cmV C drive keep R dc] w (DoP base sb ob nb c (snapT s C).1 (snapT s C).2 w) := by
  have e1 : snapT s C = (Td.no 0, ⟨s.ths, put s.shs C.other s.ths⟩) := by unfold snapT; rw [if_pos hk, if_pos hr0]
  rw [e1]
  clear e1
  obtain ⟨W1, hW1, hN1, hr, hcm, hz⟩ := cmd_mem (w := w) (cs := cmL C.kind C.name C.other C.off C.count drive keep R C.dn dc)
  obtain ⟨c0, c1, c2, c3, c4, c5, c6, c7⟩ := cmd_cells hcm.out
  rw [hk] at c0
  have hNH := Lib.hid hN1
  have hS1 := hS.new hN1
  have hSH := Lib.hid hS1
  have s0 := hS1.bk.cell 0
  have s1 := hS1.bk.cell 1
  simp at s0 s1
  have hrm : Hid (∀ w', New W1 w' → Calls Try.prog 29 #[.map (some nb), encStr C.other, .int .i64 3] w' fun e w'' => e = .returned (.int .i64 0) ∧ New w' w'') := fun w' hn => by
    have := room_snp nb c 3 C.other s.shs w' (hS1.new hn).nm hC.ol (by omega) (by have := hP.len; omega)
    rw [hr0] at this
    exact this
  have hol := Lib.hid hC.ol
  obtain ⟨nm, hnm⟩ : ∃ nm, Hid (nm = C.other) := ⟨_, rfl⟩
  rw [← hnm.out] at c2 hrm hol ⊢
  have k0 := NewW.keep c2
  have k1 := NewW.keep s1
  have hbz : base ≤ W1.heap.size := by have := hN1.size; omega
  clear hN1 hS hC hk hS1
  go_enter Try.func15, Try.ntmps15
  go_upto_region 1 with fail
  rw [← hW1]
  clear hW1
  go_upto_region 2 with fail
  (refine wp_region_quiet_new (by kernel_rfl) (by kernel_rfl) ?_; (repeat (first | go_big_quiet_step (first | (go_at_call 29; exact NewW.call _ (hrm.out _ (NewW.is _)))) | quiet_step (first | (go_at_call 29; exact NewW.call _ (hrm.out _ (NewW.is _)))))); refine wpQuiet_nil ?_; rintro W2 ⟨⟨_, hn_W2⟩, rfl⟩)
  have hn2 := hn_W2
  have hn2H := Lib.hid hn2
  obtain ⟨es, kk, w7, hcl, hn3, hup, hS7, ha7⟩ := snap_left base sb ob nb c s (hSH.out.new hn2) hcl hol.out (by have := hn2.size; omega)
  have hcl2 := Lib.hid (hcl W2.drew rfl)
  have s0 := (hSH.out.new hn2).bk.cell 0
  have s1 := (hSH.out.new hn2).bk.cell 1
  simp at s0 s1
  have t0 := ((hSH.out.new hn2).new hn3).bk.cell 0
  have t1 := ((hSH.out.new hn2).new hn3).bk.cell 1
  simp at t0 t1
  have c2 := (hn2.cell (lt_of_cell c2)).trans c2
  have d2 := (hn3.cell (lt_of_cell c2)).trans c2
  have haF := Lib.hid ((Alt.of_new (K := PK sb ob nb) hn2).trans ha7.out)
  have hr7 := Lib.hid (haF.out.blk hr.out (hSH.out.apart hr.out (by decide)))
  clear k0 k1 hn2 hn3 hcl hn_W2
  go_upto_region 4 with fail
  go_region_law (first
    | (refine step_mapUpdate_run (by rfl) _ _ _ 48 (by rfl) _ _ _ (by rfl) (by rfl) (by rfl) hup ?_)
    | (go_simp; go_at_call 30; refine hcl2.out.mono ?_; rintro e w ⟨rfl, rfl⟩; show _; dsimp only))
  all_goals
    go_wp2_with (go_at_call 12; refine (no_any 0 _).mono ?_; rintro e w8 ⟨rfl, hn8⟩; have hn8H := Lib.hid hn8; obtain ⟨⟨r0, r1, r2, r3, r4⟩, ⟨y0, y1, y2, y3, y4⟩, hx⟩ := told_cells (hr7.out.new hn8))
    exact bodyPost_ret (by simp [results, Try.results15, go_sem, hx.out]) rfl (DoP.told (t := Td.no 0) hSH.out hNH.out hr.out (Nat.le_succ _) (hS7.out.new hn8H.out) (TdV.no _ _) (haF.out.next hn8H.out))
end
end Go.Proofs.Ytmpaheaedaeakaa.pool
