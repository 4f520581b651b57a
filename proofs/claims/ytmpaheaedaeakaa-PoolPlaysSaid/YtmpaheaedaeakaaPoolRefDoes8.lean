/-
  The reference's Model.Does: Look.
-/
import Derived.Test.YtmpaheaedaeakaaPoolRefDoes7
namespace Go.Proofs.Ytmpaheaedaeakaa.pool
open Go.ChangeShapes Go.WideShapes Go.ChangeAt Go.RowKit Go.Proofs.Ytmpaheaedaeakaa.kit Go.Deep Go.Maps
set_option linter.unusedVariables false
set_option maxRecDepth 100000
set_option maxHeartbeats 2000000 in
theorem look_none (tv sv : Value) (s : PS) (C : Cm) (drive keep : Int) (R : Option Addr) (dc : Nat) (w : World) (ht : TL w tv s.ths) (hs : SL w sv s.shs) (hP : OkP s) (hC : CmOk w C R dc) (l : Ths) (hk : C.kind = 8) (hgl : get s.shs C.other = some l) (hn : get l C.name = none) :
    Calls Try.prog 9 #[.agg #[tv, sv], .agg (cmL C.kind C.name C.other C.off C.count drive keep R C.dn dc)] w (MdP (doT s C).1 (doT s C).2 w) := by
  have hg : (get s.shs C.other).isSome = true := by rw [hgl]; rfl
  obtain ⟨i0, hi0, hx0⟩ : ∃ i0, i0 < s.shs.length ∧ (nth s.shs i0).1 = C.other := by
    cases h : get s.shs C.other with
    | none => rw [h] at hg; cases hg
    | some y =>
      by_cases hh : ∃ i, i < s.shs.length ∧ (nth s.shs i).1 = C.other
      · exact hh
      · rw [(get_none_iff).2 fun i hi e => hh ⟨i, hi, e⟩] at h
        cases h
  have hgx : get s.shs C.other = some (nth s.shs i0).2 := by rw [← hx0]; exact get_at hP.asc hi0
  have e1 : doT s C = (Td.no 6, s) := by unfold doT; rw [if_neg (by omega), if_neg (by omega), if_neg (by omega), if_pos (by omega)]; unfold snapT; rw [if_neg (by omega), hgl]; simp [hk, hn]
  rw [e1]
  clear e1
  obtain ⟨W1, hW1, hN1, gm, gc, gp, gq⟩ := does_mem w #[tv, sv] (cmL C.kind C.name C.other C.off C.count drive keep R C.dn dc)
  have hNH := Lib.hid hN1
  have ht1 := Lib.hid (TL.new ht hN1)
  have hs1 := Lib.hid (SL.new hs hN1)
  have hC1 := Lib.hid (hC.new hN1)
  have hPH := Lib.hid hP
  have hat := Lib.hid (thingAt_any tv s.ths C.name W1 (TL.new ht hN1) (by have := hP.th.len; omega))
  obtain ⟨o, hst, hfo⟩ := place_ex hP.asc C.other
  have hst := Lib.hid hst
  have hfo := Lib.hid hfo
  have hlen3 := hP.len
  have hlen4 := hP.th.len
  have hsw := Lib.hid hs
  obtain ⟨SA, sc, U, rfl, _, _, _, hsc, _⟩ := hs
  have hsc := Lib.hid hsc
  obtain ⟨A, n, rfl⟩ := ht.form
  obtain ⟨N, hNl⟩ : ∃ N, Hid (N = s.shs.length) := ⟨_, rfl⟩
  obtain ⟨T, hTl⟩ : ∃ T, Hid (T = s.ths.length) := ⟨_, rfl⟩
  have hcell : Hid (0 < N → ∃ g off, SA = some ⟨g, off, none⟩ ∧ g < w.heap.size ∧ ∀ i, i < N → w.cell? ⟨g, off + i * 2, none⟩ = some (encStr (nth s.shs i).1) ∧ w.cell? ⟨g, off + i * 2 + 1, none⟩ = some (U i)) := by
    rw [hNl.out]
    exact hsc.out
  rw [← hNl.out] at gm hs1 hlen3 hW1 hsw ⊢
  rw [← hTl.out] at gm ht1 hat hlen4 hW1 ⊢
  have hst : Hid (∀ k, k < N → shV o (k + 1) = if (nth s.shs k).1 = C.other then (k : Int) else shV o k) := by
    rw [hNl.out]
    exact hst.out
  obtain ⟨q0, hq0⟩ : ∃ q0, Hid (q0 = shV o N) := ⟨_, rfl⟩
  have hfo : Hid (posI s.shs C.other q0) := by
    show posI _ _ _
    rw [hq0.out, hNl.out]
    exact hfo.out
  obtain ⟨c0, c1, c2, c3, c4, c5, c6, c7⟩ := cmd_cells gc.out
  rw [hk] at c0
  have k0 := gm.out.cell 0
  have k1 := gm.out.cell 1
  simp at k0 k1
  have hkeep : Hid (∀ w', New W1 w' → w'.cell? ⟨w.heap.size, 1, none⟩ = some (.slice SA N sc) ∧ w'.cell? ⟨w.heap.size + 1, 2, none⟩ = some (encStr C.other)) := fun w' h => ⟨(h.cell (lt_of_cell k1)).trans k1, (h.cell (lt_of_cell c2)).trans c2⟩
  have hkH := Lib.hid hk
  have hll : Hid (l = (nth s.shs i0).2) := Option.some.inj (hgl.symm.trans hgx)
  have hi0H := Lib.hid hi0
  have hx0H := Lib.hid hx0
  clear hgx hg hi0 hx0 hgl
  clear hN1 ht hP hC hk c3 c4 c5 c6 c7 hsc
  go_enter Try.func9, Try.ntmps9
  go_upto_region 1 with fail
  rw [← hW1]
  clear hW1
  rw [show w.heap.size + 1 + 1 + 1 = w.heap.size + 3 from rfl, show w.heap.size + 1 + 1 = w.heap.size + 2 from rfl]
  go_wp2_with (go_at_call 18; refine hat.out.mono ?_; rintro e w2 ⟨p, rfl, hpos, rfl⟩; have hpos := Lib.hid hpos)
  go_loopw [32, 8] (fun q sh wr => ∃ i : Nat, q = .int .i64 (i : Nat) ∧ i ≤ N ∧ sh = .int .i64 (shV o i) ∧ Hid (New W1 wr)) (fun q _ _ => N - (intOf q).toNat)
  case atStart => exact ⟨0, rfl, Nat.zero_le _, by rw [shV_0], Lib.hid (New.refl _)⟩
  case round =>
    obtain ⟨i, rfl, hi, rfl, hNr⟩ := hrel
    obtain ⟨m1, d2⟩ := hkeep.out wr hNr.out
    by_cases hlt : i < N
    · obtain ⟨g, off, rfl, hg, hc⟩ := hcell.out (by omega)
      have e0 := ((hNH.out.next hNr.out).cell (p := ⟨g, off + i * 2, none⟩) hg).trans (hc i hlt).1
      have hil : (i : Int) < (N : Int) := by omega
      have hsi := hst.out i hlt
      obtain ⟨y, hy⟩ : ∃ y, Hid (y = (nth s.shs i).1) := ⟨_, rfl⟩
      rw [← hy.out] at e0 hsi
      obtain ⟨sv1, hsv1⟩ : ∃ v, Hid (v = shV o (i + 1)) := ⟨_, rfl⟩
      rw [← hsv1.out] at hsi
      obtain ⟨sv0, hsv0⟩ : ∃ v, Hid (v = shV o i) := ⟨_, rfl⟩
      rw [← hsv0.out] at hsi ⊢
      clear hc k0 k1 c0 c1 c2
      by_cases e : y = C.other
      · have hd : (y == C.other) = true := by simp [e]
        have hs3 : Hid (sv1 = (i : Int)) := by show _ = _; rw [hsi, if_pos e]
        clear e hsi
        go_wp2
        go_quiet (fail)
        go_wp2
        go_roundw
        case rel => exact ⟨i + 1, by go_num, by omega, by rw [← hsv1.out, hs3.out], Lib.hid (hNr.out.drewN _)⟩
        case measure => simp [intOf]; omega
      · have hd : (y == C.other) = false := by simp [e]
        have hs3 : Hid (sv1 = sv0) := by show _ = _; rw [hsi, if_neg e]
        clear e hsi
        go_wp2
        go_quiet (fail)
        go_wp2
        go_roundw
        case rel => exact ⟨i + 1, by go_num, by omega, by rw [← hsv1.out, hs3.out], Lib.hid (hNr.out.drewN _)⟩
        case measure => simp [intOf]; omega
    · have hin : N = i := by omega
      subst hin
      rw [← hq0.out]
      have hil : ¬ (N : Int) < (N : Int) := by omega
      have gmr := Lib.hid (gm.out.new hNr.out)
      have gcr := Lib.hid (gc.out.new hNr.out)
      have gpr := Lib.hid (gp.out.new hNr.out)
      have gqr := Lib.hid (gq.out.new hNr.out)
      have htr := Lib.hid (TL.new ht1.out hNr.out)
      have hsr := Lib.hid (SL.new hs1.out hNr.out)
      have hCr := Lib.hid (hC1.out.new hNr.out)
      have hNw := Lib.hid (hNH.out.next hNr.out)
      clear c0 c1 c2 k0 k1 m1 d2 hlt gm gc gp gq ht1 hs1 hC1 hNH hkeep hst hat
      obtain ⟨c0, c1, c2, c3, c4, c5, c6, c7⟩ := cmd_cells gcr.out
      rw [hkH.out] at c0
      have k0 := gmr.out.cell 0
      have k1 := gmr.out.cell 1
      simp at k0 k1
      obtain ⟨i1, hp0, hi1, hx1⟩ := hfo.out.pos (by rw [← hx0H.out, get_at hPH.out.asc hi0H.out]; rfl)
      have : i1 = i0 := nth_inj hPH.out.asc hi1 hi0H.out (hx1.trans hx0H.out.symm)
      subst this
      subst hp0
      have hiT : i1 < N := by rw [hNl.out]; exact hi1
      have hp1 : (i1 : Int) < (N : Int) := by omega
      obtain ⟨A', n', V, he, _, _, _, hc5, hc6⟩ := hsw.out
      have hTT := hNl.out
      injection he with he1 he2 he3
      subst he1
      obtain ⟨g, off, rfl, hg, hc⟩ := hc5 (by omega)
      have e1 := (hNw.out.cell (p := ⟨g, off + i1 * 2 + 1, none⟩) hg).trans (hc i1 hi1).2
      obtain ⟨hb6, _⟩ := hc6 i1 hi1
      obtain ⟨l1, hl1⟩ : ∃ l1, Hid (l1 = (nth s.shs i1).2) := ⟨_, rfl⟩
      rw [← hl1.out] at hb6
      obtain ⟨X, xc, hV⟩ := hb6.form
      rw [hV] at e1 hb6
      obtain ⟨xn, hxn⟩ : ∃ xn, Hid (xn = l1.length) := ⟨_, rfl⟩
      rw [← hxn.out] at e1 hb6
      have htx := Lib.hid (TL.new hb6 hNw.out)
      have htw := Lib.hid hb6
      have hok := Lib.hid (hPH.out.sh _ (nth_mem hi1))
      rw [← hl1.out] at hok
      clear hTT he2 he3 hc5 hc6 hc hi1 hx1 hb6 hV
      have hlh : Hid (l1 = l) := by show _ = _; rw [hl1.out, hll.out]
      have hta := Lib.hid (thingAt_any (.slice X xn xc) l1 C.name wr.drew (TL.new htx.out (New.refl _).drew) (by have := hok.out.len; omega))
      have hS1 : wr.drew.cell? ⟨w.heap.size, 1, none⟩ = some (.slice (some ⟨g, off, none⟩) N sc) ∧ wr.drew.cell? ⟨g, off + i1 * 2 + 1, none⟩ = some (.slice X xn xc) ∧ wr.drew.cell? ⟨w.heap.size + 1, 1, none⟩ = some (encStr C.name) := ⟨k1, e1, c1⟩
      go_wp2
      go_region_held3 (fun w' => w'.cell? ⟨w.heap.size, 1, none⟩ = some (.slice (some ⟨g, off, none⟩) N sc) ∧ w'.cell? ⟨g, off + i1 * 2 + 1, none⟩ = some (.slice X xn xc) ∧ w'.cell? ⟨w.heap.size + 1, 1, none⟩ = some (encStr C.name))
        (first
          | with_reducible exact hS1
          | with_reducible assumption)
        (first
          | (go_at_call 18; refine hta.out.mono ?_; rintro e w3 ⟨p2, rfl, hp2, rfl⟩; have hp2H := Lib.hid hp2; clear hp2))
      clear hS1 hta
      obtain ⟨wd, hwd⟩ : ∃ wd, wd = wr.drew := ⟨_, rfl⟩
      rw [← hwd]
      have hnd : Hid (New wr wd) := by show New _ _; rw [hwd]; exact (New.refl _).drew
      clear hwd
      replace gmr := Lib.hid (gmr.out.new hnd.out)
      replace gcr := Lib.hid (gcr.out.new hnd.out)
      replace gpr := Lib.hid (gpr.out.new hnd.out)
      replace gqr := Lib.hid (gqr.out.new hnd.out)
      replace htr := Lib.hid (TL.new htr.out hnd.out)
      replace hsr := Lib.hid (SL.new hsr.out hnd.out)
      replace hNw := Lib.hid (hNw.out.next hnd.out)
      replace hCr := Lib.hid (hCr.out.new hnd.out)
      replace e1 := (hnd.out.cell (p := ⟨g, off + i1 * 2 + 1, none⟩) (lt_of_cell e1)).trans e1
      clear c0 c1 c2 c3 c4 c5 c6 c7 k0 k1
      obtain ⟨c0, c1, c2, c3, c4, c5, c6, c7⟩ := cmd_cells gcr.out
      rw [hkH.out] at c0
      have k0 := gmr.out.cell 0
      have k1 := gmr.out.cell 1
      simp at k0 k1
      have hp3 : p2 = -1 := hp2H.out.neg hok.out.asc (by rw [hlh.out]; exact hn)
      subst hp3
      clear hn
      have href := Lib.hid (refuse_any 6 w.heap.size (.slice A T n) (.slice (some ⟨g, off, none⟩) N sc) s wd gmr.out htr.out hsr.out)
      go_wp2_with (first
        | (go_at_call 17; refine href.out.mono ?_; rintro e w3 ⟨u, tv3, sv3, rfl, hu, hu1, hu2, hn3⟩
           obtain ⟨A', n', k', B', m', j', rfl⟩ := hu.full
           obtain ⟨A3, n3, rfl⟩ := hu1.form
           obtain ⟨B3, m3, rfl⟩ := hu2.form
           obtain ⟨⟨r0, r1, r2, r3, r4⟩, ⟨y0, y1, y2, y3, y4⟩, ⟨r5, r6, y5, y6⟩, hx⟩ := out_cells (gpr.out.new hn3) (gqr.out.new hn3) (by omega)
           have hf := Lib.hid (md_fin (t := Td.no 6) (s := s) (gpr.out.new hn3) (gqr.out.new hn3) (by omega) (by omega) (hNw.out.next hn3) hu hu1 hu2)
           clear hu hu1 hu2 hn3))
      exact bodyPost_ret (by simp [results, Try.results9, go_sem, hx.out]) rfl hf.out
set_option maxHeartbeats 2000000 in
theorem look_ok (tv sv : Value) (s : PS) (C : Cm) (drive keep : Int) (R : Option Addr) (dc : Nat) (w : World) (ht : TL w tv s.ths) (hs : SL w sv s.shs) (hP : OkP s) (hC : CmOk w C R dc) (l : Ths) (hk : C.kind = 8) (hgl : get s.shs C.other = some l) (b : By) (hn : get l C.name = some b) :
    Calls Try.prog 9 #[.agg #[tv, sv], .agg (cmL C.kind C.name C.other C.off C.count drive keep R C.dn dc)] w (MdP (doT s C).1 (doT s C).2 w) := by
  have hg : (get s.shs C.other).isSome = true := by rw [hgl]; rfl
  obtain ⟨i0, hi0, hx0⟩ : ∃ i0, i0 < s.shs.length ∧ (nth s.shs i0).1 = C.other := by
    cases h : get s.shs C.other with
    | none => rw [h] at hg; cases hg
    | some y =>
      by_cases hh : ∃ i, i < s.shs.length ∧ (nth s.shs i).1 = C.other
      · exact hh
      · rw [(get_none_iff).2 fun i hi e => hh ⟨i, hi, e⟩] at h
        cases h
  have hgx : get s.shs C.other = some (nth s.shs i0).2 := by rw [← hx0]; exact get_at hP.asc hi0
  have e1 : doT s C = (fetchT b C.off C.count, s) := by unfold doT; rw [if_neg (by omega), if_neg (by omega), if_neg (by omega), if_pos (by omega)]; unfold snapT; rw [if_neg (by omega), hgl]; simp [hk, hn]
  rw [e1]
  clear e1
  obtain ⟨W1, hW1, hN1, gm, gc, gp, gq⟩ := does_mem w #[tv, sv] (cmL C.kind C.name C.other C.off C.count drive keep R C.dn dc)
  have hNH := Lib.hid hN1
  have ht1 := Lib.hid (TL.new ht hN1)
  have hs1 := Lib.hid (SL.new hs hN1)
  have hC1 := Lib.hid (hC.new hN1)
  have hPH := Lib.hid hP
  have hat := Lib.hid (thingAt_any tv s.ths C.name W1 (TL.new ht hN1) (by have := hP.th.len; omega))
  obtain ⟨o, hst, hfo⟩ := place_ex hP.asc C.other
  have hst := Lib.hid hst
  have hfo := Lib.hid hfo
  have hlen3 := hP.len
  have hlen4 := hP.th.len
  have hsw := Lib.hid hs
  obtain ⟨SA, sc, U, rfl, _, _, _, hsc, _⟩ := hs
  have hsc := Lib.hid hsc
  obtain ⟨A, n, rfl⟩ := ht.form
  obtain ⟨N, hNl⟩ : ∃ N, Hid (N = s.shs.length) := ⟨_, rfl⟩
  obtain ⟨T, hTl⟩ : ∃ T, Hid (T = s.ths.length) := ⟨_, rfl⟩
  have hcell : Hid (0 < N → ∃ g off, SA = some ⟨g, off, none⟩ ∧ g < w.heap.size ∧ ∀ i, i < N → w.cell? ⟨g, off + i * 2, none⟩ = some (encStr (nth s.shs i).1) ∧ w.cell? ⟨g, off + i * 2 + 1, none⟩ = some (U i)) := by
    rw [hNl.out]
    exact hsc.out
  rw [← hNl.out] at gm hs1 hlen3 hW1 hsw ⊢
  rw [← hTl.out] at gm ht1 hat hlen4 hW1 ⊢
  have hst : Hid (∀ k, k < N → shV o (k + 1) = if (nth s.shs k).1 = C.other then (k : Int) else shV o k) := by
    rw [hNl.out]
    exact hst.out
  obtain ⟨q0, hq0⟩ : ∃ q0, Hid (q0 = shV o N) := ⟨_, rfl⟩
  have hfo : Hid (posI s.shs C.other q0) := by
    show posI _ _ _
    rw [hq0.out, hNl.out]
    exact hfo.out
  obtain ⟨c0, c1, c2, c3, c4, c5, c6, c7⟩ := cmd_cells gc.out
  rw [hk] at c0
  have k0 := gm.out.cell 0
  have k1 := gm.out.cell 1
  simp at k0 k1
  have hkeep : Hid (∀ w', New W1 w' → w'.cell? ⟨w.heap.size, 1, none⟩ = some (.slice SA N sc) ∧ w'.cell? ⟨w.heap.size + 1, 2, none⟩ = some (encStr C.other)) := fun w' h => ⟨(h.cell (lt_of_cell k1)).trans k1, (h.cell (lt_of_cell c2)).trans c2⟩
  have hkH := Lib.hid hk
  have hll : Hid (l = (nth s.shs i0).2) := Option.some.inj (hgl.symm.trans hgx)
  have hi0H := Lib.hid hi0
  have hx0H := Lib.hid hx0
  clear hgx hg hi0 hx0 hgl
  clear hN1 ht hP hC hk c3 c4 c5 c6 c7 hsc
  go_enter Try.func9, Try.ntmps9
  go_upto_region 1 with fail
  rw [← hW1]
  clear hW1
  rw [show w.heap.size + 1 + 1 + 1 = w.heap.size + 3 from rfl, show w.heap.size + 1 + 1 = w.heap.size + 2 from rfl]
  go_wp2_with (go_at_call 18; refine hat.out.mono ?_; rintro e w2 ⟨p, rfl, hpos, rfl⟩; have hpos := Lib.hid hpos)
  go_loopw [32, 8] (fun q sh wr => ∃ i : Nat, q = .int .i64 (i : Nat) ∧ i ≤ N ∧ sh = .int .i64 (shV o i) ∧ Hid (New W1 wr)) (fun q _ _ => N - (intOf q).toNat)
  case atStart => exact ⟨0, rfl, Nat.zero_le _, by rw [shV_0], Lib.hid (New.refl _)⟩
  case round =>
    obtain ⟨i, rfl, hi, rfl, hNr⟩ := hrel
    obtain ⟨m1, d2⟩ := hkeep.out wr hNr.out
    by_cases hlt : i < N
    · obtain ⟨g, off, rfl, hg, hc⟩ := hcell.out (by omega)
      have e0 := ((hNH.out.next hNr.out).cell (p := ⟨g, off + i * 2, none⟩) hg).trans (hc i hlt).1
      have hil : (i : Int) < (N : Int) := by omega
      have hsi := hst.out i hlt
      obtain ⟨y, hy⟩ : ∃ y, Hid (y = (nth s.shs i).1) := ⟨_, rfl⟩
      rw [← hy.out] at e0 hsi
      obtain ⟨sv1, hsv1⟩ : ∃ v, Hid (v = shV o (i + 1)) := ⟨_, rfl⟩
      rw [← hsv1.out] at hsi
      obtain ⟨sv0, hsv0⟩ : ∃ v, Hid (v = shV o i) := ⟨_, rfl⟩
      rw [← hsv0.out] at hsi ⊢
      clear hc k0 k1 c0 c1 c2
      by_cases e : y = C.other
      · have hd : (y == C.other) = true := by simp [e]
        have hs3 : Hid (sv1 = (i : Int)) := by show _ = _; rw [hsi, if_pos e]
        clear e hsi
        go_wp2
        go_quiet (fail)
        go_wp2
        go_roundw
        case rel => exact ⟨i + 1, by go_num, by omega, by rw [← hsv1.out, hs3.out], Lib.hid (hNr.out.drewN _)⟩
        case measure => simp [intOf]; omega
      · have hd : (y == C.other) = false := by simp [e]
        have hs3 : Hid (sv1 = sv0) := by show _ = _; rw [hsi, if_neg e]
        clear e hsi
        go_wp2
        go_quiet (fail)
        go_wp2
        go_roundw
        case rel => exact ⟨i + 1, by go_num, by omega, by rw [← hsv1.out, hs3.out], Lib.hid (hNr.out.drewN _)⟩
        case measure => simp [intOf]; omega
    · have hin : N = i := by omega
      subst hin
      rw [← hq0.out]
      have hil : ¬ (N : Int) < (N : Int) := by omega
      have gmr := Lib.hid (gm.out.new hNr.out)
      have gcr := Lib.hid (gc.out.new hNr.out)
      have gpr := Lib.hid (gp.out.new hNr.out)
      have gqr := Lib.hid (gq.out.new hNr.out)
      have htr := Lib.hid (TL.new ht1.out hNr.out)
      have hsr := Lib.hid (SL.new hs1.out hNr.out)
      have hCr := Lib.hid (hC1.out.new hNr.out)
      have hNw := Lib.hid (hNH.out.next hNr.out)
      clear c0 c1 c2 k0 k1 m1 d2 hlt gm gc gp gq ht1 hs1 hC1 hNH hkeep hst hat
      obtain ⟨c0, c1, c2, c3, c4, c5, c6, c7⟩ := cmd_cells gcr.out
      rw [hkH.out] at c0
      have k0 := gmr.out.cell 0
      have k1 := gmr.out.cell 1
      simp at k0 k1
      obtain ⟨i1, hp0, hi1, hx1⟩ := hfo.out.pos (by rw [← hx0H.out, get_at hPH.out.asc hi0H.out]; rfl)
      have : i1 = i0 := nth_inj hPH.out.asc hi1 hi0H.out (hx1.trans hx0H.out.symm)
      subst this
      subst hp0
      have hiT : i1 < N := by rw [hNl.out]; exact hi1
      have hp1 : (i1 : Int) < (N : Int) := by omega
      obtain ⟨A', n', V, he, _, _, _, hc5, hc6⟩ := hsw.out
      have hTT := hNl.out
      injection he with he1 he2 he3
      subst he1
      obtain ⟨g, off, rfl, hg, hc⟩ := hc5 (by omega)
      have e1 := (hNw.out.cell (p := ⟨g, off + i1 * 2 + 1, none⟩) hg).trans (hc i1 hi1).2
      obtain ⟨hb6, _⟩ := hc6 i1 hi1
      obtain ⟨l1, hl1⟩ : ∃ l1, Hid (l1 = (nth s.shs i1).2) := ⟨_, rfl⟩
      rw [← hl1.out] at hb6
      obtain ⟨X, xc, hV⟩ := hb6.form
      rw [hV] at e1 hb6
      obtain ⟨xn, hxn⟩ : ∃ xn, Hid (xn = l1.length) := ⟨_, rfl⟩
      rw [← hxn.out] at e1 hb6
      have htx := Lib.hid (TL.new hb6 hNw.out)
      have htw := Lib.hid hb6
      have hok := Lib.hid (hPH.out.sh _ (nth_mem hi1))
      rw [← hl1.out] at hok
      clear hTT he2 he3 hc5 hc6 hc hi1 hx1 hb6 hV
      have hlh : Hid (l1 = l) := by show _ = _; rw [hl1.out, hll.out]
      have hta := Lib.hid (thingAt_any (.slice X xn xc) l1 C.name wr.drew (TL.new htx.out (New.refl _).drew) (by have := hok.out.len; omega))
      have hS1 : wr.drew.cell? ⟨w.heap.size, 1, none⟩ = some (.slice (some ⟨g, off, none⟩) N sc) ∧ wr.drew.cell? ⟨g, off + i1 * 2 + 1, none⟩ = some (.slice X xn xc) ∧ wr.drew.cell? ⟨w.heap.size + 1, 1, none⟩ = some (encStr C.name) := ⟨k1, e1, c1⟩
      go_wp2
      go_region_held3 (fun w' => w'.cell? ⟨w.heap.size, 1, none⟩ = some (.slice (some ⟨g, off, none⟩) N sc) ∧ w'.cell? ⟨g, off + i1 * 2 + 1, none⟩ = some (.slice X xn xc) ∧ w'.cell? ⟨w.heap.size + 1, 1, none⟩ = some (encStr C.name))
        (first
          | with_reducible exact hS1
          | with_reducible assumption)
        (first
          | (go_at_call 18; refine hta.out.mono ?_; rintro e w3 ⟨p2, rfl, hp2, rfl⟩; have hp2H := Lib.hid hp2; clear hp2))
      clear hS1 hta
      obtain ⟨wd, hwd⟩ : ∃ wd, wd = wr.drew := ⟨_, rfl⟩
      rw [← hwd]
      have hnd : Hid (New wr wd) := by show New _ _; rw [hwd]; exact (New.refl _).drew
      clear hwd
      replace gmr := Lib.hid (gmr.out.new hnd.out)
      replace gcr := Lib.hid (gcr.out.new hnd.out)
      replace gpr := Lib.hid (gpr.out.new hnd.out)
      replace gqr := Lib.hid (gqr.out.new hnd.out)
      replace htr := Lib.hid (TL.new htr.out hnd.out)
      replace hsr := Lib.hid (SL.new hsr.out hnd.out)
      replace hNw := Lib.hid (hNw.out.next hnd.out)
      replace hCr := Lib.hid (hCr.out.new hnd.out)
      replace e1 := (hnd.out.cell (p := ⟨g, off + i1 * 2 + 1, none⟩) (lt_of_cell e1)).trans e1
      clear c0 c1 c2 c3 c4 c5 c6 c7 k0 k1
      obtain ⟨c0, c1, c2, c3, c4, c5, c6, c7⟩ := cmd_cells gcr.out
      rw [hkH.out] at c0
      have k0 := gmr.out.cell 0
      have k1 := gmr.out.cell 1
      simp at k0 k1
      obtain ⟨i2, hp3, hi2, hx2⟩ := hp2H.out.pos (by rw [hlh.out, hn]; rfl)
      subst hp3
      have hiX : i2 < xn := by rw [hxn.out]; exact hi2
      have hp4 : (i2 : Int) < (xn : Int) := by omega
      have hbb : (nth l1 i2).2 = b := by
        have h1 := get_at hok.out.asc hi2
        rw [hx2, show get l1 C.name = some b by rw [hlh.out]; exact hn] at h1
        exact (Option.some.inj h1).symm
      obtain ⟨A6, n6, V6, he6, _, _, _, hc5, hc6⟩ := htw.out
      have hTT := hxn.out
      injection he6 with he1 he2 he3
      subst he1
      obtain ⟨g6, off6, rfl, hg6, hcc⟩ := hc5 (by omega)
      have e6 := (hNw.out.cell (p := ⟨g6, off6 + i2 * 2 + 1, none⟩) hg6).trans (hcc i2 hi2).2
      obtain ⟨hb6, _⟩ := hc6 i2 hi2
      rw [hbb] at hb6
      have hsb := Lib.hid (someBytes_any (V6 i2) b C.off C.count wd.drew (hb6.new hNw.out.drew) (by rw [← hbb]; exact hok.out.sz _ (nth_mem hi2)) hCr.out.o1 hCr.out.c1)
      obtain ⟨Y, yc, hV⟩ := hb6.form
      rw [hV] at hsb e6
      clear hTT he2 he3 hc5 hc6 hcc hi2 hx2 hb6 hV hn hbb
      have hkeep : Hid (∀ w', New wd w' → w'.cell? ⟨w.heap.size, 0, none⟩ = some (.slice A T n) ∧ w'.cell? ⟨w.heap.size, 1, none⟩ = some (.slice (some ⟨g, off, none⟩) N sc) ∧ w'.cell? ⟨g, off + i1 * 2 + 1, none⟩ = some (.slice (some ⟨g6, off6, none⟩) xn xc) ∧ w'.cell? ⟨g6, off6 + i2 * 2 + 1, none⟩ = some (.slice Y b.n yc) ∧ w'.cell? ⟨w.heap.size + 1, 3, none⟩ = some (.int .i64 C.off) ∧ w'.cell? ⟨w.heap.size + 1, 4, none⟩ = some (.int .i64 C.count)) := fun w' h => ⟨(h.cell (lt_of_cell k0)).trans k0, (h.cell (lt_of_cell k1)).trans k1, (h.cell (lt_of_cell e1)).trans e1, (h.cell (lt_of_cell e6)).trans e6, (h.cell (lt_of_cell c3)).trans c3, (h.cell (lt_of_cell c4)).trans c4⟩
      have hS1 := hkeep.out wd.drew (New.refl _).drew
      go_wp2
      go_region_held3 (fun w' => w'.cell? ⟨w.heap.size, 0, none⟩ = some (.slice A T n) ∧ w'.cell? ⟨w.heap.size, 1, none⟩ = some (.slice (some ⟨g, off, none⟩) N sc) ∧ w'.cell? ⟨g, off + i1 * 2 + 1, none⟩ = some (.slice (some ⟨g6, off6, none⟩) xn xc) ∧ w'.cell? ⟨g6, off6 + i2 * 2 + 1, none⟩ = some (.slice Y b.n yc) ∧ w'.cell? ⟨w.heap.size + 1, 3, none⟩ = some (.int .i64 C.off) ∧ w'.cell? ⟨w.heap.size + 1, 4, none⟩ = some (.int .i64 C.count))
        (first
          | with_reducible exact hS1
          | with_reducible exact hS3
          | with_reducible exact hS4
          | with_reducible exact hS5
          | with_reducible assumption)
        (first
          | (go_at_call 22; refine hsb.out.mono ?_; rintro e w3 ⟨u, rfl, hu, hn3⟩
             obtain ⟨A2, n2, k2, B2, m2, j2, rfl⟩ := hu.full
             obtain ⟨⟨r0, r1, r2, r3, r4⟩, ⟨y0, y1, y2, y3, y4⟩, ⟨r5, r6, y5, y6⟩, hx⟩ := out_cells (gpr.out.drew.new hn3) (gqr.out.drew.new hn3) (by omega)
             have hS3 := hkeep.out w3 (New.next (New.refl _).drew hn3)
             have hS4 : (put5 w3 (w.heap.size + 2) (.int .i64 (fetchT b C.off C.count).code) (.bool false) (.int .i64 ((fetchT b C.off C.count).size : Nat)) (.slice A2 n2 k2) (.slice B2 m2 j2)).cell? ⟨w.heap.size, 0, none⟩ = some (.slice A T n) ∧ (put5 w3 (w.heap.size + 2) (.int .i64 (fetchT b C.off C.count).code) (.bool false) (.int .i64 ((fetchT b C.off C.count).size : Nat)) (.slice A2 n2 k2) (.slice B2 m2 j2)).cell? ⟨w.heap.size, 1, none⟩ = some (.slice (some ⟨g, off, none⟩) N sc) ∧ (put5 w3 (w.heap.size + 2) (.int .i64 (fetchT b C.off C.count).code) (.bool false) (.int .i64 ((fetchT b C.off C.count).size : Nat)) (.slice A2 n2 k2) (.slice B2 m2 j2)).cell? ⟨g, off + i1 * 2 + 1, none⟩ = some (.slice (some ⟨g6, off6, none⟩) xn xc) ∧ (put5 w3 (w.heap.size + 2) (.int .i64 (fetchT b C.off C.count).code) (.bool false) (.int .i64 ((fetchT b C.off C.count).size : Nat)) (.slice A2 n2 k2) (.slice B2 m2 j2)).cell? ⟨g6, off6 + i2 * 2 + 1, none⟩ = some (.slice Y b.n yc) ∧ (put5 w3 (w.heap.size + 2) (.int .i64 (fetchT b C.off C.count).code) (.bool false) (.int .i64 ((fetchT b C.off C.count).size : Nat)) (.slice A2 n2 k2) (.slice B2 m2 j2)).cell? ⟨w.heap.size + 1, 3, none⟩ = some (.int .i64 C.off) ∧ (put5 w3 (w.heap.size + 2) (.int .i64 (fetchT b C.off C.count).code) (.bool false) (.int .i64 ((fetchT b C.off C.count).size : Nat)) (.slice A2 n2 k2) (.slice B2 m2 j2)).cell? ⟨w.heap.size + 1, 4, none⟩ = some (.int .i64 C.count) := by
               obtain ⟨u0, u1, u2, u3, u4, u5⟩ := hS3
               exact ⟨(put5_alt _ _ _ _ _ _ _).cell u0 (by dsimp only; omega), (put5_alt _ _ _ _ _ _ _).cell u1 (by dsimp only; omega), (put5_alt _ _ _ _ _ _ _).cell u2 (by dsimp only; omega), (put5_alt _ _ _ _ _ _ _).cell u3 (by dsimp only; omega), (put5_alt _ _ _ _ _ _ _).cell u4 (by dsimp only; omega), (put5_alt _ _ _ _ _ _ _).cell u5 (by dsimp only; omega)⟩
             have hS5 : (putM w3 (w.heap.size + 2) (w.heap.size + 3) (.int .i64 (fetchT b C.off C.count).code) (.bool false) (.int .i64 ((fetchT b C.off C.count).size : Nat)) (.slice A2 n2 k2) (.slice B2 m2 j2) (.slice A T n) (.slice (some ⟨g, off, none⟩) N sc)).cell? ⟨w.heap.size, 0, none⟩ = some (.slice A T n) ∧ (putM w3 (w.heap.size + 2) (w.heap.size + 3) (.int .i64 (fetchT b C.off C.count).code) (.bool false) (.int .i64 ((fetchT b C.off C.count).size : Nat)) (.slice A2 n2 k2) (.slice B2 m2 j2) (.slice A T n) (.slice (some ⟨g, off, none⟩) N sc)).cell? ⟨w.heap.size, 1, none⟩ = some (.slice (some ⟨g, off, none⟩) N sc) ∧ (putM w3 (w.heap.size + 2) (w.heap.size + 3) (.int .i64 (fetchT b C.off C.count).code) (.bool false) (.int .i64 ((fetchT b C.off C.count).size : Nat)) (.slice A2 n2 k2) (.slice B2 m2 j2) (.slice A T n) (.slice (some ⟨g, off, none⟩) N sc)).cell? ⟨g, off + i1 * 2 + 1, none⟩ = some (.slice (some ⟨g6, off6, none⟩) xn xc) ∧ (putM w3 (w.heap.size + 2) (w.heap.size + 3) (.int .i64 (fetchT b C.off C.count).code) (.bool false) (.int .i64 ((fetchT b C.off C.count).size : Nat)) (.slice A2 n2 k2) (.slice B2 m2 j2) (.slice A T n) (.slice (some ⟨g, off, none⟩) N sc)).cell? ⟨g6, off6 + i2 * 2 + 1, none⟩ = some (.slice Y b.n yc) ∧ (putM w3 (w.heap.size + 2) (w.heap.size + 3) (.int .i64 (fetchT b C.off C.count).code) (.bool false) (.int .i64 ((fetchT b C.off C.count).size : Nat)) (.slice A2 n2 k2) (.slice B2 m2 j2) (.slice A T n) (.slice (some ⟨g, off, none⟩) N sc)).cell? ⟨w.heap.size + 1, 3, none⟩ = some (.int .i64 C.off) ∧ (putM w3 (w.heap.size + 2) (w.heap.size + 3) (.int .i64 (fetchT b C.off C.count).code) (.bool false) (.int .i64 ((fetchT b C.off C.count).size : Nat)) (.slice A2 n2 k2) (.slice B2 m2 j2) (.slice A T n) (.slice (some ⟨g, off, none⟩) N sc)).cell? ⟨w.heap.size + 1, 4, none⟩ = some (.int .i64 C.count) := by
               obtain ⟨u0, u1, u2, u3, u4, u5⟩ := hS3
               exact ⟨(putM_alt _ _ _ _ _ _ _ _ _ _).cell u0 (by dsimp only; omega), (putM_alt _ _ _ _ _ _ _ _ _ _).cell u1 (by dsimp only; omega), (putM_alt _ _ _ _ _ _ _ _ _ _).cell u2 (by dsimp only; omega), (putM_alt _ _ _ _ _ _ _ _ _ _).cell u3 (by dsimp only; omega), (putM_alt _ _ _ _ _ _ _ _ _ _).cell u4 (by dsimp only; omega), (putM_alt _ _ _ _ _ _ _ _ _ _).cell u5 (by dsimp only; omega)⟩
             have hf := Lib.hid (md_fin (t := fetchT b C.off C.count) (s := s) (gpr.out.drew.new hn3) (gqr.out.drew.new hn3) (by omega) (by omega) (hNw.out.drew.next hn3) hu (TL.new htr.out ((New.refl _).drew.next hn3)) (SL.new hsr.out ((New.refl _).drew.next hn3)))
             clear hn3))
      clear hS1 hS3 hS4 hS5 hkeep
      go_wp2
      exact bodyPost_ret (by simp [results, Try.results9, go_sem, hx.out]) rfl hf.out
end Go.Proofs.Ytmpaheaedaeakaa.pool
