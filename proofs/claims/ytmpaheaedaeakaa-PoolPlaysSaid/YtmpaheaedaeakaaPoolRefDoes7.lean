/-
  The reference's Model.Does: Back.
-/
import Derived.Test.YtmpaheaedaeakaaPoolRefDoes6
namespace Go.Proofs.Ytmpaheaedaeakaa.pool
open Go.ChangeShapes Go.WideShapes Go.ChangeAt Go.RowKit Go.Proofs.Ytmpaheaedaeakaa.kit Go.Deep Go.Maps
set_option linter.unusedVariables false
set_option maxRecDepth 100000
set_option maxHeartbeats 2000000 in
theorem back_ok (tv sv : Value) (s : PS) (C : Cm) (drive keep : Int) (R : Option Addr) (dc : Nat) (w : World) (ht : TL w tv s.ths) (hs : SL w sv s.shs) (hP : OkP s) (hC : CmOk w C R dc) (hk : C.kind = 9) (hg : (get s.shs C.other).isSome = true) :
    Calls Try.prog 9 #[.agg #[tv, sv], .agg (cmL C.kind C.name C.other C.off C.count drive keep R C.dn dc)] w (MdP (doT s C).1 (doT s C).2 w) := by
  obtain ⟨i0, hi0, hx0⟩ : ∃ i0, i0 < s.shs.length ∧ (nth s.shs i0).1 = C.other := by
    cases h : get s.shs C.other with
    | none => rw [h] at hg; cases hg
    | some y =>
      by_cases hh : ∃ i, i < s.shs.length ∧ (nth s.shs i).1 = C.other
      · exact hh
      · rw [(get_none_iff).2 fun i hi e => hh ⟨i, hi, e⟩] at h
        cases h
  have hgx : get s.shs C.other = some (nth s.shs i0).2 := by rw [← hx0]; exact get_at hP.asc hi0
  have e1 : doT s C = (Td.no 0, ⟨(nth s.shs i0).2, s.shs⟩) := by unfold doT; rw [if_neg (by omega), if_neg (by omega), if_neg (by omega), if_pos (by omega)]; unfold snapT; rw [if_neg (by omega), hgx]; simp [hk]
  rw [e1]
  clear e1
  obtain ⟨W1, hW1, hN1, gm, gc, gp, gq⟩ := does_mem w #[tv, sv] (cmL C.kind C.name C.other C.off C.count drive keep R C.dn dc)
  have hNH := Lib.hid hN1
  have ht1 := Lib.hid (TL.new ht hN1)
  have hs1 := Lib.hid (SL.new hs hN1)
  have hC1 := Lib.hid (hC.new hN1)
  have hPH := Lib.hid hP
  have hat := Lib.hid (thingAt_any tv s.ths C.name W1 (TL.new ht hN1) (by have := hP.th.len; omega))
  obtain ⟨o, hst, hfo⟩ := place_ex hP.asc C.other
  have hst := Lib.hid hst
  have hfo := Lib.hid hfo
  have hlen3 := hP.len
  have hlen4 := hP.th.len
  have hsw := Lib.hid hs
  obtain ⟨SA, sc, U, rfl, _, _, _, hsc, _⟩ := hs
  have hsc := Lib.hid hsc
  obtain ⟨A, n, rfl⟩ := ht.form
  obtain ⟨N, hNl⟩ : ∃ N, Hid (N = s.shs.length) := ⟨_, rfl⟩
  obtain ⟨T, hTl⟩ : ∃ T, Hid (T = s.ths.length) := ⟨_, rfl⟩
  have hcell : Hid (0 < N → ∃ g off, SA = some ⟨g, off, none⟩ ∧ g < w.heap.size ∧ ∀ i, i < N → w.cell? ⟨g, off + i * 2, none⟩ = some (encStr (nth s.shs i).1) ∧ w.cell? ⟨g, off + i * 2 + 1, none⟩ = some (U i)) := by
    rw [hNl.out]
    exact hsc.out
  rw [← hNl.out] at gm hs1 hlen3 hW1 hsw ⊢
  rw [← hTl.out] at gm ht1 hat hlen4 hW1 ⊢
  have hst : Hid (∀ k, k < N → shV o (k + 1) = if (nth s.shs k).1 = C.other then (k : Int) else shV o k) := by
    rw [hNl.out]
    exact hst.out
  obtain ⟨q0, hq0⟩ : ∃ q0, Hid (q0 = shV o N) := ⟨_, rfl⟩
  have hfo : Hid (posI s.shs C.other q0) := by
    show posI _ _ _
    rw [hq0.out, hNl.out]
    exact hfo.out
  obtain ⟨c0, c1, c2, c3, c4, c5, c6, c7⟩ := cmd_cells gc.out
  rw [hk] at c0
  have k0 := gm.out.cell 0
  have k1 := gm.out.cell 1
  simp at k0 k1
  have hkeep : Hid (∀ w', New W1 w' → w'.cell? ⟨w.heap.size, 1, none⟩ = some (.slice SA N sc) ∧ w'.cell? ⟨w.heap.size + 1, 2, none⟩ = some (encStr C.other)) := fun w' h => ⟨(h.cell (lt_of_cell k1)).trans k1, (h.cell (lt_of_cell c2)).trans c2⟩
  have hkH := Lib.hid hk
  have hi0H := Lib.hid hi0
  have hx0H := Lib.hid hx0
  clear hgx hg hi0 hx0
  clear hN1 ht hP hC hk c3 c4 c5 c6 c7 hsc
  go_enter Try.func9, Try.ntmps9
  go_upto_region 1 with fail
  rw [← hW1]
  clear hW1
  rw [show w.heap.size + 1 + 1 + 1 = w.heap.size + 3 from rfl, show w.heap.size + 1 + 1 = w.heap.size + 2 from rfl]
  go_wp2_with (go_at_call 18; refine hat.out.mono ?_; rintro e w2 ⟨p, rfl, hpos, rfl⟩; have hpos := Lib.hid hpos)
  go_loopw [32, 8] (fun q sh wr => ∃ i : Nat, q = .int .i64 (i : Nat) ∧ i ≤ N ∧ sh = .int .i64 (shV o i) ∧ Hid (New W1 wr)) (fun q _ _ => N - (intOf q).toNat)
  case atStart => exact ⟨0, rfl, Nat.zero_le _, by rw [shV_0], Lib.hid (New.refl _)⟩
  case round =>
    obtain ⟨i, rfl, hi, rfl, hNr⟩ := hrel
    obtain ⟨m1, d2⟩ := hkeep.out wr hNr.out
    by_cases hlt : i < N
    · obtain ⟨g, off, rfl, hg, hc⟩ := hcell.out (by omega)
      have e0 := ((hNH.out.next hNr.out).cell (p := ⟨g, off + i * 2, none⟩) hg).trans (hc i hlt).1
      have hil : (i : Int) < (N : Int) := by omega
      have hsi := hst.out i hlt
      obtain ⟨y, hy⟩ : ∃ y, Hid (y = (nth s.shs i).1) := ⟨_, rfl⟩
      rw [← hy.out] at e0 hsi
      obtain ⟨sv1, hsv1⟩ : ∃ v, Hid (v = shV o (i + 1)) := ⟨_, rfl⟩
      rw [← hsv1.out] at hsi
      obtain ⟨sv0, hsv0⟩ : ∃ v, Hid (v = shV o i) := ⟨_, rfl⟩
      rw [← hsv0.out] at hsi ⊢
      clear hc k0 k1 c0 c1 c2
      by_cases e : y = C.other
      · have hd : (y == C.other) = true := by simp [e]
        have hs3 : Hid (sv1 = (i : Int)) := by show _ = _; rw [hsi, if_pos e]
        clear e hsi
        go_wp2
        go_quiet (fail)
        go_wp2
        go_roundw
        case rel => exact ⟨i + 1, by go_num, by omega, by rw [← hsv1.out, hs3.out], Lib.hid (hNr.out.drewN _)⟩
        case measure => simp [intOf]; omega
      · have hd : (y == C.other) = false := by simp [e]
        have hs3 : Hid (sv1 = sv0) := by show _ = _; rw [hsi, if_neg e]
        clear e hsi
        go_wp2
        go_quiet (fail)
        go_wp2
        go_roundw
        case rel => exact ⟨i + 1, by go_num, by omega, by rw [← hsv1.out, hs3.out], Lib.hid (hNr.out.drewN _)⟩
        case measure => simp [intOf]; omega
    · have hin : N = i := by omega
      subst hin
      rw [← hq0.out]
      have hil : ¬ (N : Int) < (N : Int) := by omega
      have gmr := Lib.hid (gm.out.new hNr.out)
      have gcr := Lib.hid (gc.out.new hNr.out)
      have gpr := Lib.hid (gp.out.new hNr.out)
      have gqr := Lib.hid (gq.out.new hNr.out)
      have htr := Lib.hid (TL.new ht1.out hNr.out)
      have hsr := Lib.hid (SL.new hs1.out hNr.out)
      have hCr := Lib.hid (hC1.out.new hNr.out)
      have hNw := Lib.hid (hNH.out.next hNr.out)
      clear c0 c1 c2 k0 k1 m1 d2 hlt gm gc gp gq ht1 hs1 hC1 hNH hkeep hst hat
      obtain ⟨c0, c1, c2, c3, c4, c5, c6, c7⟩ := cmd_cells gcr.out
      rw [hkH.out] at c0
      have k0 := gmr.out.cell 0
      have k1 := gmr.out.cell 1
      simp at k0 k1
      obtain ⟨i1, hp0, hi1, hx1⟩ := hfo.out.pos (by rw [← hx0H.out, get_at hPH.out.asc hi0H.out]; rfl)
      have : i1 = i0 := nth_inj hPH.out.asc hi1 hi0H.out (hx1.trans hx0H.out.symm)
      subst this
      subst hp0
      have hiT : i1 < N := by rw [hNl.out]; exact hi1
      have hp1 : (i1 : Int) < (N : Int) := by omega
      obtain ⟨A', n', V, he, _, _, _, hc5, hc6⟩ := hsw.out
      have hTT := hNl.out
      injection he with he1 he2 he3
      subst he1
      obtain ⟨g, off, rfl, hg, hc⟩ := hc5 (by omega)
      have e1 := (hNw.out.cell (p := ⟨g, off + i1 * 2 + 1, none⟩) hg).trans (hc i1 hi1).2
      obtain ⟨hb6, _⟩ := hc6 i1 hi1
      obtain ⟨l1, hl1⟩ : ∃ l1, Hid (l1 = (nth s.shs i1).2) := ⟨_, rfl⟩
      rw [← hl1.out] at hb6
      obtain ⟨X, xc, hV⟩ := hb6.form
      rw [hV] at e1 hb6
      obtain ⟨xn, hxn⟩ : ∃ xn, Hid (xn = l1.length) := ⟨_, rfl⟩
      rw [← hxn.out] at e1 hb6
      have htx := Lib.hid (TL.new hb6 hNw.out)
      have htw := Lib.hid hb6
      have hok := Lib.hid (hPH.out.sh _ (nth_mem hi1))
      rw [← hl1.out] at hok
      clear hTT he2 he3 hc5 hc6 hc hi1 hx1 hb6 hV
      obtain ⟨⟨r0, r1, r2, r3, r4⟩, ⟨y0, y1, y2, y3, y4⟩, ⟨r5, r6, y5, y6⟩, hx⟩ := out_cells gpr.out gqr.out (by omega)
      have hS1 : wr.drew.cell? ⟨w.heap.size, 1, none⟩ = some (.slice (some ⟨g, off, none⟩) N sc) ∧ wr.drew.cell? ⟨g, off + i1 * 2 + 1, none⟩ = some (.slice X xn xc) := ⟨k1, e1⟩
      have hS6 : (put5 wr (w.heap.size + 2) (.int .i64 0) (.bool false) (.int .i64 0) (.slice none 0 0) (.slice none 0 0)).drew.cell? ⟨w.heap.size, 1, none⟩ = some (.slice (some ⟨g, off, none⟩) N sc) ∧ (put5 wr (w.heap.size + 2) (.int .i64 0) (.bool false) (.int .i64 0) (.slice none 0 0) (.slice none 0 0)).drew.cell? ⟨g, off + i1 * 2 + 1, none⟩ = some (.slice X xn xc) := ⟨((put5_alt wr _ _ _ _ _ _).drew).cell k1 (by dsimp only; omega), ((put5_alt wr _ _ _ _ _ _).drew).cell e1 (by dsimp only; omega)⟩
      have hS7 : (putM wr (w.heap.size + 2) (w.heap.size + 3) (.int .i64 0) (.bool false) (.int .i64 0) (.slice none 0 0) (.slice none 0 0) (.slice X xn xc) (.slice (some ⟨g, off, none⟩) N sc)).drew.cell? ⟨w.heap.size, 1, none⟩ = some (.slice (some ⟨g, off, none⟩) N sc) ∧ (putM wr (w.heap.size + 2) (w.heap.size + 3) (.int .i64 0) (.bool false) (.int .i64 0) (.slice none 0 0) (.slice none 0 0) (.slice X xn xc) (.slice (some ⟨g, off, none⟩) N sc)).drew.cell? ⟨g, off + i1 * 2 + 1, none⟩ = some (.slice X xn xc) := ⟨((putM_alt wr _ _ _ _ _ _ _ _ _).drew).cell k1 (by dsimp only; omega), ((putM_alt wr _ _ _ _ _ _ _ _ _).drew).cell e1 (by dsimp only; omega)⟩
      have hf := Lib.hid (md_fin (t := Td.no 0) (s := ⟨(nth s.shs i1).2, s.shs⟩) gpr.out gqr.out (by omega) (by omega) hNw.out (TdV.no _ 0) (by rw [← hl1.out]; exact htx.out) hsr.out).drew
      go_wp2
      go_region_held3 (fun w' => w'.cell? ⟨w.heap.size, 1, none⟩ = some (.slice (some ⟨g, off, none⟩) N sc) ∧ w'.cell? ⟨g, off + i1 * 2 + 1, none⟩ = some (.slice X xn xc))
        (first
          | with_reducible exact hS1
          | with_reducible exact hS6
          | with_reducible exact hS7
          | with_reducible assumption)
        (first | fail)
      clear hS1 hS6 hS7
      go_wp2
      exact bodyPost_ret (by simp [results, Try.results9, go_sem, hx.out]) rfl hf.out
end Go.Proofs.Ytmpaheaedaeakaa.pool
