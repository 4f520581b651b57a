/-
  The reference's Model.Does: Sync, no kind at all.
-/
import Derived.Test.YtmpaheaedaeakaaPoolRefDoes0
namespace Go.Proofs.Ytmpaheaedaeakaa.pool
open Go.ChangeShapes Go.WideShapes Go.ChangeAt Go.RowKit Go.Proofs.Ytmpaheaedaeakaa.kit Go.Deep Go.Maps
set_option linter.unusedVariables false
set_option maxRecDepth 100000
set_option maxHeartbeats 2000000 in
theorem does_sync (tv sv : Value) (s : PS) (C : Cm) (drive keep : Int) (R : Option Addr) (dc : Nat) (w : World) (ht : TL w tv s.ths) (hs : SL w sv s.shs) (hP : OkP s) (hC : CmOk w C R dc) (hk : C.kind = 12) :
    Calls Try.prog 9 #[.agg #[tv, sv], .agg (cmL C.kind C.name C.other C.off C.count drive keep R C.dn dc)] w (MdP (doT s C).1 (doT s C).2 w) := by
  have e1 : doT s C = (Td.no 0, s) := by unfold doT; rw [if_neg (by omega), if_neg (by omega), if_neg (by omega), if_neg (by omega), if_neg (by omega), if_pos hk]
  rw [e1]
  clear e1
  obtain ⟨W1, hW1, hN1, gm, gc, gp, gq⟩ := does_mem w #[tv, sv] (cmL C.kind C.name C.other C.off C.count drive keep R C.dn dc)
  have hNH := Lib.hid hN1
  have ht1 := Lib.hid (TL.new ht hN1)
  have hs1 := Lib.hid (SL.new hs hN1)
  have hC1 := Lib.hid (hC.new hN1)
  have hPH := Lib.hid hP
  have hat := Lib.hid (thingAt_any tv s.ths C.name W1 (TL.new ht hN1) (by have := hP.th.len; omega))
  obtain ⟨o, hst, hfo⟩ := place_ex hP.asc C.other
  have hst := Lib.hid hst
  have hfo := Lib.hid hfo
  have hlen3 := hP.len
  have hlen4 := hP.th.len
  obtain ⟨SA, sc, U, rfl, _, _, _, hsc, _⟩ := hs
  have hsc := Lib.hid hsc
  obtain ⟨A, n, rfl⟩ := ht.form
  obtain ⟨N, hNl⟩ : ∃ N, Hid (N = s.shs.length) := ⟨_, rfl⟩
  obtain ⟨T, hTl⟩ : ∃ T, Hid (T = s.ths.length) := ⟨_, rfl⟩
  have hcell : Hid (0 < N → ∃ g off, SA = some ⟨g, off, none⟩ ∧ g < w.heap.size ∧ ∀ i, i < N → w.cell? ⟨g, off + i * 2, none⟩ = some (encStr (nth s.shs i).1) ∧ w.cell? ⟨g, off + i * 2 + 1, none⟩ = some (U i)) := by
    rw [hNl.out]
    exact hsc.out
  rw [← hNl.out] at gm hs1 hlen3 hW1 ⊢
  rw [← hTl.out] at gm ht1 hat hlen4 hW1 ⊢
  have hst : Hid (∀ k, k < N → shV o (k + 1) = if (nth s.shs k).1 = C.other then (k : Int) else shV o k) := by
    rw [hNl.out]
    exact hst.out
  obtain ⟨q0, hq0⟩ : ∃ q0, Hid (q0 = shV o N) := ⟨_, rfl⟩
  have hfo : Hid (posI s.shs C.other q0) := by
    show posI _ _ _
    rw [hq0.out, hNl.out]
    exact hfo.out
  obtain ⟨c0, c1, c2, c3, c4, c5, c6, c7⟩ := cmd_cells gc.out
  rw [hk] at c0
  have k0 := gm.out.cell 0
  have k1 := gm.out.cell 1
  simp at k0 k1
  have hkeep : Hid (∀ w', New W1 w' → w'.cell? ⟨w.heap.size, 1, none⟩ = some (.slice SA N sc) ∧ w'.cell? ⟨w.heap.size + 1, 2, none⟩ = some (encStr C.other)) := fun w' h => ⟨(h.cell (lt_of_cell k1)).trans k1, (h.cell (lt_of_cell c2)).trans c2⟩
  have hkH := Lib.hid hk
  clear hN1 ht hP hC hk c3 c4 c5 c6 c7 hsc
  go_enter Try.func9, Try.ntmps9
  go_upto_region 1 with fail
  rw [← hW1]
  clear hW1
  rw [show w.heap.size + 1 + 1 + 1 = w.heap.size + 3 from rfl, show w.heap.size + 1 + 1 = w.heap.size + 2 from rfl]
  go_wp2_with (go_at_call 18; refine hat.out.mono ?_; rintro e w2 ⟨p, rfl, hpos, rfl⟩; have hpos := Lib.hid hpos)
  go_loopw [32, 8] (fun q sh wr => ∃ i : Nat, q = .int .i64 (i : Nat) ∧ i ≤ N ∧ sh = .int .i64 (shV o i) ∧ Hid (New W1 wr)) (fun q _ _ => N - (intOf q).toNat)
  case atStart => exact ⟨0, rfl, Nat.zero_le _, by rw [shV_0], Lib.hid (New.refl _)⟩
  case round =>
    obtain ⟨i, rfl, hi, rfl, hNr⟩ := hrel
    obtain ⟨m1, d2⟩ := hkeep.out wr hNr.out
    by_cases hlt : i < N
    · obtain ⟨g, off, rfl, hg, hc⟩ := hcell.out (by omega)
      have e0 := ((hNH.out.next hNr.out).cell (p := ⟨g, off + i * 2, none⟩) hg).trans (hc i hlt).1
      have hil : (i : Int) < (N : Int) := by omega
      have hsi := hst.out i hlt
      obtain ⟨y, hy⟩ : ∃ y, Hid (y = (nth s.shs i).1) := ⟨_, rfl⟩
      rw [← hy.out] at e0 hsi
      obtain ⟨sv1, hsv1⟩ : ∃ v, Hid (v = shV o (i + 1)) := ⟨_, rfl⟩
      rw [← hsv1.out] at hsi
      obtain ⟨sv0, hsv0⟩ : ∃ v, Hid (v = shV o i) := ⟨_, rfl⟩
      rw [← hsv0.out] at hsi ⊢
      clear hc k0 k1 c0 c1 c2
      by_cases e : y = C.other
      · have hd : (y == C.other) = true := by simp [e]
        have hs3 : Hid (sv1 = (i : Int)) := by show _ = _; rw [hsi, if_pos e]
        clear e hsi
        go_wp2
        go_quiet (fail)
        go_wp2
        go_roundw
        case rel => exact ⟨i + 1, by go_num, by omega, by rw [← hsv1.out, hs3.out], Lib.hid (hNr.out.drewN _)⟩
        case measure => simp [intOf]; omega
      · have hd : (y == C.other) = false := by simp [e]
        have hs3 : Hid (sv1 = sv0) := by show _ = _; rw [hsi, if_neg e]
        clear e hsi
        go_wp2
        go_quiet (fail)
        go_wp2
        go_roundw
        case rel => exact ⟨i + 1, by go_num, by omega, by rw [← hsv1.out, hs3.out], Lib.hid (hNr.out.drewN _)⟩
        case measure => simp [intOf]; omega
    · have hin : N = i := by omega
      subst hin
      rw [← hq0.out]
      have hil : ¬ (N : Int) < (N : Int) := by omega
      have gmr := Lib.hid (gm.out.new hNr.out)
      have gcr := Lib.hid (gc.out.new hNr.out)
      have gpr := Lib.hid (gp.out.new hNr.out)
      have gqr := Lib.hid (gq.out.new hNr.out)
      have htr := Lib.hid (TL.new ht1.out hNr.out)
      have hsr := Lib.hid (SL.new hs1.out hNr.out)
      have hCr := Lib.hid (hC1.out.new hNr.out)
      have hNw := Lib.hid (hNH.out.next hNr.out)
      clear c0 c1 c2 k0 k1 m1 d2 hlt gm gc gp gq ht1 hs1 hC1 hNH hkeep hst hat
      obtain ⟨c0, c1, c2, c3, c4, c5, c6, c7⟩ := cmd_cells gcr.out
      rw [hkH.out] at c0
      have k0 := gmr.out.cell 0
      have k1 := gmr.out.cell 1
      simp at k0 k1
      obtain ⟨⟨r0, r1, r2, r3, r4⟩, ⟨y0, y1, y2, y3, y4⟩, ⟨r5, r6, y5, y6⟩, hx⟩ := out_cells gpr.out gqr.out (by omega)
      have hf := Lib.hid (md_fin (t := Td.no 0) (s := s) gpr.out gqr.out (by omega) (by omega) hNw.out (TdV.no _ _) htr.out hsr.out).drew
      clear gpr gqr gmr gcr htr hsr hCr
      go_wp2
      go_region
      all_goals go_wp2
      all_goals exact bodyPost_ret (by simp [results, Try.results9, go_sem, hx.out]) rfl hf.out
set_option maxHeartbeats 2000000 in
theorem does_else (tv sv : Value) (s : PS) (C : Cm) (drive keep : Int) (R : Option Addr) (dc : Nat) (w : World) (ht : TL w tv s.ths) (hs : SL w sv s.shs) (hP : OkP s) (hC : CmOk w C R dc) (k : Int) (hk : C.kind = k) (hk1 : k < 1 ∨ 12 < k) :
    Calls Try.prog 9 #[.agg #[tv, sv], .agg (cmL C.kind C.name C.other C.off C.count drive keep R C.dn dc)] w (MdP (doT s C).1 (doT s C).2 w) := by
  have e1 : doT s C = (Td.no 3, s) := by unfold doT; rw [if_neg (by omega), if_neg (by omega), if_neg (by omega), if_neg (by omega), if_neg (by omega), if_neg (by omega)]
  rw [e1]
  clear e1
  obtain ⟨W1, hW1, hN1, gm, gc, gp, gq⟩ := does_mem w #[tv, sv] (cmL C.kind C.name C.other C.off C.count drive keep R C.dn dc)
  have hNH := Lib.hid hN1
  have ht1 := Lib.hid (TL.new ht hN1)
  have hs1 := Lib.hid (SL.new hs hN1)
  have hC1 := Lib.hid (hC.new hN1)
  have hPH := Lib.hid hP
  have hat := Lib.hid (thingAt_any tv s.ths C.name W1 (TL.new ht hN1) (by have := hP.th.len; omega))
  obtain ⟨o, hst, hfo⟩ := place_ex hP.asc C.other
  have hst := Lib.hid hst
  have hfo := Lib.hid hfo
  have hlen3 := hP.len
  have hlen4 := hP.th.len
  obtain ⟨SA, sc, U, rfl, _, _, _, hsc, _⟩ := hs
  have hsc := Lib.hid hsc
  obtain ⟨A, n, rfl⟩ := ht.form
  obtain ⟨N, hNl⟩ : ∃ N, Hid (N = s.shs.length) := ⟨_, rfl⟩
  obtain ⟨T, hTl⟩ : ∃ T, Hid (T = s.ths.length) := ⟨_, rfl⟩
  have hcell : Hid (0 < N → ∃ g off, SA = some ⟨g, off, none⟩ ∧ g < w.heap.size ∧ ∀ i, i < N → w.cell? ⟨g, off + i * 2, none⟩ = some (encStr (nth s.shs i).1) ∧ w.cell? ⟨g, off + i * 2 + 1, none⟩ = some (U i)) := by
    rw [hNl.out]
    exact hsc.out
  rw [← hNl.out] at gm hs1 hlen3 hW1 ⊢
  rw [← hTl.out] at gm ht1 hat hlen4 hW1 ⊢
  have hst : Hid (∀ k, k < N → shV o (k + 1) = if (nth s.shs k).1 = C.other then (k : Int) else shV o k) := by
    rw [hNl.out]
    exact hst.out
  obtain ⟨q0, hq0⟩ : ∃ q0, Hid (q0 = shV o N) := ⟨_, rfl⟩
  have hfo : Hid (posI s.shs C.other q0) := by
    show posI _ _ _
    rw [hq0.out, hNl.out]
    exact hfo.out
  obtain ⟨c0, c1, c2, c3, c4, c5, c6, c7⟩ := cmd_cells gc.out
  rw [hk] at c0
  have k0 := gm.out.cell 0
  have k1 := gm.out.cell 1
  simp at k0 k1
  have hkeep : Hid (∀ w', New W1 w' → w'.cell? ⟨w.heap.size, 1, none⟩ = some (.slice SA N sc) ∧ w'.cell? ⟨w.heap.size + 1, 2, none⟩ = some (encStr C.other)) := fun w' h => ⟨(h.cell (lt_of_cell k1)).trans k1, (h.cell (lt_of_cell c2)).trans c2⟩
  have hkH := Lib.hid hk
  clear hN1 ht hP hC hk c3 c4 c5 c6 c7 hsc
  go_enter Try.func9, Try.ntmps9
  go_upto_region 1 with fail
  rw [← hW1]
  clear hW1
  rw [show w.heap.size + 1 + 1 + 1 = w.heap.size + 3 from rfl, show w.heap.size + 1 + 1 = w.heap.size + 2 from rfl]
  go_wp2_with (go_at_call 18; refine hat.out.mono ?_; rintro e w2 ⟨p, rfl, hpos, rfl⟩; have hpos := Lib.hid hpos)
  go_loopw [32, 8] (fun q sh wr => ∃ i : Nat, q = .int .i64 (i : Nat) ∧ i ≤ N ∧ sh = .int .i64 (shV o i) ∧ Hid (New W1 wr)) (fun q _ _ => N - (intOf q).toNat)
  case atStart => exact ⟨0, rfl, Nat.zero_le _, by rw [shV_0], Lib.hid (New.refl _)⟩
  case round =>
    obtain ⟨i, rfl, hi, rfl, hNr⟩ := hrel
    obtain ⟨m1, d2⟩ := hkeep.out wr hNr.out
    by_cases hlt : i < N
    · obtain ⟨g, off, rfl, hg, hc⟩ := hcell.out (by omega)
      have e0 := ((hNH.out.next hNr.out).cell (p := ⟨g, off + i * 2, none⟩) hg).trans (hc i hlt).1
      have hil : (i : Int) < (N : Int) := by omega
      have hsi := hst.out i hlt
      obtain ⟨y, hy⟩ : ∃ y, Hid (y = (nth s.shs i).1) := ⟨_, rfl⟩
      rw [← hy.out] at e0 hsi
      obtain ⟨sv1, hsv1⟩ : ∃ v, Hid (v = shV o (i + 1)) := ⟨_, rfl⟩
      rw [← hsv1.out] at hsi
      obtain ⟨sv0, hsv0⟩ : ∃ v, Hid (v = shV o i) := ⟨_, rfl⟩
      rw [← hsv0.out] at hsi ⊢
      clear hc k0 k1 c0 c1 c2
      by_cases e : y = C.other
      · have hd : (y == C.other) = true := by simp [e]
        have hs3 : Hid (sv1 = (i : Int)) := by show _ = _; rw [hsi, if_pos e]
        clear e hsi
        go_wp2
        go_quiet (fail)
        go_wp2
        go_roundw
        case rel => exact ⟨i + 1, by go_num, by omega, by rw [← hsv1.out, hs3.out], Lib.hid (hNr.out.drewN _)⟩
        case measure => simp [intOf]; omega
      · have hd : (y == C.other) = false := by simp [e]
        have hs3 : Hid (sv1 = sv0) := by show _ = _; rw [hsi, if_neg e]
        clear e hsi
        go_wp2
        go_quiet (fail)
        go_wp2
        go_roundw
        case rel => exact ⟨i + 1, by go_num, by omega, by rw [← hsv1.out, hs3.out], Lib.hid (hNr.out.drewN _)⟩
        case measure => simp [intOf]; omega
    · have hin : N = i := by omega
      subst hin
      rw [← hq0.out]
      have hil : ¬ (N : Int) < (N : Int) := by omega
      have gmr := Lib.hid (gm.out.new hNr.out)
      have gcr := Lib.hid (gc.out.new hNr.out)
      have gpr := Lib.hid (gp.out.new hNr.out)
      have gqr := Lib.hid (gq.out.new hNr.out)
      have htr := Lib.hid (TL.new ht1.out hNr.out)
      have hsr := Lib.hid (SL.new hs1.out hNr.out)
      have hCr := Lib.hid (hC1.out.new hNr.out)
      have hNw := Lib.hid (hNH.out.next hNr.out)
      clear c0 c1 c2 k0 k1 m1 d2 hlt gm gc gp gq ht1 hs1 hC1 hNH hkeep hst hat
      obtain ⟨c0, c1, c2, c3, c4, c5, c6, c7⟩ := cmd_cells gcr.out
      rw [hkH.out] at c0
      have k0 := gmr.out.cell 0
      have k1 := gmr.out.cell 1
      simp at k0 k1
      skip
      have f1 : ¬ k = 1 := by omega
      have f2 : ¬ k = 2 := by omega
      have f3 : ¬ k = 3 := by omega
      have f4 : ¬ k = 4 := by omega
      have f5 : ¬ k = 5 := by omega
      have f6 : ¬ k = 6 := by omega
      have f7 : ¬ k = 7 := by omega
      have f8 : ¬ k = 8 := by omega
      have f9 : ¬ k = 9 := by omega
      have f10 : ¬ k = 10 := by omega
      have f11 : ¬ k = 11 := by omega
      have f12 : ¬ k = 12 := by omega
      have href := Lib.hid (refuse_any 3 w.heap.size (.slice A T n) (.slice SA N sc) s wr gmr.out htr.out hsr.out)
      go_wp2_with (first
        | (go_at_call 17; refine href.out.mono ?_; rintro e w3 ⟨u, tv3, sv3, rfl, hu, hu1, hu2, hn3⟩
           obtain ⟨A', n', k', B', m', j', rfl⟩ := hu.full
           obtain ⟨A3, n3, rfl⟩ := hu1.form
           obtain ⟨B3, m3, rfl⟩ := hu2.form
           obtain ⟨⟨r0, r1, r2, r3, r4⟩, ⟨y0, y1, y2, y3, y4⟩, ⟨r5, r6, y5, y6⟩, hx⟩ := out_cells (gpr.out.new hn3) (gqr.out.new hn3) (by omega)
           have hf := Lib.hid (md_fin (t := Td.no 3) (s := s) (gpr.out.new hn3) (gqr.out.new hn3) (by omega) (by omega) (hNw.out.next hn3) hu hu1 hu2)
           clear hu hu1 hu2 hn3))
      exact bodyPost_ret (by simp [results, Try.results9, go_sem, hx.out]) rfl hf.out
end Go.Proofs.Ytmpaheaedaeakaa.pool
