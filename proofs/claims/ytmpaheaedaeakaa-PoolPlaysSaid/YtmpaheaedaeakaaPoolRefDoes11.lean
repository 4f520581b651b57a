/-
  The reference's Model.Does: Unsnap (under way).
-/
import Derived.Test.YtmpaheaedaeakaaPoolRefApp
namespace Go.Proofs.Ytmpaheaedaeakaa.pool
open Go.ChangeShapes Go.WideShapes Go.ChangeAt Go.RowKit Go.Proofs.Ytmpaheaedaeakaa.kit Go.Deep Go.Maps
set_option linter.unusedVariables false
set_option maxRecDepth 100000
set_option maxHeartbeats 2000000 in
theorem unsnap_ok (tv sv : Value) (s : PS) (C : Cm) (drive keep : Int) (R : Option Addr) (dc : Nat) (w : World) (ht : TL w tv s.ths) (hs : SL w sv s.shs) (hP : OkP s) (hC : CmOk w C R dc) (hk : C.kind = 10) (hg : (get s.shs C.other).isSome = true) :
    Calls Try.prog 9 #[.agg #[tv, sv], .agg (cmL C.kind C.name C.other C.off C.count drive keep R C.dn dc)] w (MdP (doT s C).1 (doT s C).2 w) := by
  obtain ⟨i0, hi0, hx0⟩ : ∃ i0, i0 < s.shs.length ∧ (nth s.shs i0).1 = C.other := by
    cases h : get s.shs C.other with
    | none => rw [h] at hg; cases hg
    | some y =>
      by_cases hh : ∃ i, i < s.shs.length ∧ (nth s.shs i).1 = C.other
      · exact hh
      · rw [(get_none_iff).2 fun i hi e => hh ⟨i, hi, e⟩] at h
        cases h
  have hgx : get s.shs C.other = some (nth s.shs i0).2 := by rw [← hx0]; exact get_at hP.asc hi0
  have e1 : doT s C = (Td.no 0, ⟨s.ths, del s.shs C.other⟩) := by unfold doT; rw [if_neg (by omega), if_neg (by omega), if_neg (by omega), if_pos (by omega)]; unfold snapT; rw [if_neg (by omega), hgx]; simp [hk]
  rw [e1]
  clear e1
  obtain ⟨W1, hW1, hN1, gm, gc, gp, gq⟩ := does_mem w #[tv, sv] (cmL C.kind C.name C.other C.off C.count drive keep R C.dn dc)
  have hNH := Lib.hid hN1
  have ht1 := Lib.hid (TL.new ht hN1)
  have hs1 := Lib.hid (SL.new hs hN1)
  have hC1 := Lib.hid (hC.new hN1)
  have hPH := Lib.hid hP
  have hat := Lib.hid (thingAt_any tv s.ths C.name W1 (TL.new ht hN1) (by have := hP.th.len; omega))
  obtain ⟨o, hst, hfo⟩ := place_ex hP.asc C.other
  have hst := Lib.hid hst
  have hfo := Lib.hid hfo
  have hlen3 := hP.len
  have hlen4 := hP.th.len
  have hsw := Lib.hid hs
  obtain ⟨SA, sc, U, rfl, _, _, _, hsc, _⟩ := hs
  have hsc := Lib.hid hsc
  obtain ⟨A, n, rfl⟩ := ht.form
  obtain ⟨N, hNl⟩ : ∃ N, Hid (N = s.shs.length) := ⟨_, rfl⟩
  obtain ⟨T, hTl⟩ : ∃ T, Hid (T = s.ths.length) := ⟨_, rfl⟩
  have hcell : Hid (0 < N → ∃ g off, SA = some ⟨g, off, none⟩ ∧ g < w.heap.size ∧ ∀ i, i < N → w.cell? ⟨g, off + i * 2, none⟩ = some (encStr (nth s.shs i).1) ∧ w.cell? ⟨g, off + i * 2 + 1, none⟩ = some (U i)) := by
    rw [hNl.out]
    exact hsc.out
  rw [← hNl.out] at gm hs1 hlen3 hW1 hsw ⊢
  rw [← hTl.out] at gm ht1 hat hlen4 hW1 ⊢
  have hst : Hid (∀ k, k < N → shV o (k + 1) = if (nth s.shs k).1 = C.other then (k : Int) else shV o k) := by
    rw [hNl.out]
    exact hst.out
  obtain ⟨q0, hq0⟩ : ∃ q0, Hid (q0 = shV o N) := ⟨_, rfl⟩
  have hfo : Hid (posI s.shs C.other q0) := by
    show posI _ _ _
    rw [hq0.out, hNl.out]
    exact hfo.out
  obtain ⟨c0, c1, c2, c3, c4, c5, c6, c7⟩ := cmd_cells gc.out
  rw [hk] at c0
  have k0 := gm.out.cell 0
  have k1 := gm.out.cell 1
  simp at k0 k1
  have hkeep : Hid (∀ w', New W1 w' → w'.cell? ⟨w.heap.size, 1, none⟩ = some (.slice SA N sc) ∧ w'.cell? ⟨w.heap.size + 1, 2, none⟩ = some (encStr C.other)) := fun w' h => ⟨(h.cell (lt_of_cell k1)).trans k1, (h.cell (lt_of_cell c2)).trans c2⟩
  have hkH := Lib.hid hk
  have hi0H := Lib.hid hi0
  have hx0H := Lib.hid hx0
  clear hgx hg hi0 hx0
  clear hN1 ht hP hC hk c3 c4 c5 c6 c7 hsc
  go_enter Try.func9, Try.ntmps9
  go_upto_region 1 with fail
  rw [← hW1]
  clear hW1
  rw [show w.heap.size + 1 + 1 + 1 = w.heap.size + 3 from rfl, show w.heap.size + 1 + 1 = w.heap.size + 2 from rfl]
  go_wp2_with (go_at_call 18; refine hat.out.mono ?_; rintro e w2 ⟨p, rfl, hpos, rfl⟩; have hpos := Lib.hid hpos)
  go_loopw [32, 8] (fun q sh wr => ∃ i : Nat, q = .int .i64 (i : Nat) ∧ i ≤ N ∧ sh = .int .i64 (shV o i) ∧ Hid (New W1 wr)) (fun q _ _ => N - (intOf q).toNat)
  case atStart => exact ⟨0, rfl, Nat.zero_le _, by rw [shV_0], Lib.hid (New.refl _)⟩
  case round =>
    obtain ⟨i, rfl, hi, rfl, hNr⟩ := hrel
    obtain ⟨m1, d2⟩ := hkeep.out wr hNr.out
    by_cases hlt : i < N
    · obtain ⟨g, off, rfl, hg, hc⟩ := hcell.out (by omega)
      have e0 := ((hNH.out.next hNr.out).cell (p := ⟨g, off + i * 2, none⟩) hg).trans (hc i hlt).1
      have hil : (i : Int) < (N : Int) := by omega
      have hsi := hst.out i hlt
      obtain ⟨y, hy⟩ : ∃ y, Hid (y = (nth s.shs i).1) := ⟨_, rfl⟩
      rw [← hy.out] at e0 hsi
      obtain ⟨sv1, hsv1⟩ : ∃ v, Hid (v = shV o (i + 1)) := ⟨_, rfl⟩
      rw [← hsv1.out] at hsi
      obtain ⟨sv0, hsv0⟩ : ∃ v, Hid (v = shV o i) := ⟨_, rfl⟩
      rw [← hsv0.out] at hsi ⊢
      clear hc k0 k1 c0 c1 c2
      by_cases e : y = C.other
      · have hd : (y == C.other) = true := by simp [e]
        have hs3 : Hid (sv1 = (i : Int)) := by show _ = _; rw [hsi, if_pos e]
        clear e hsi
        go_wp2
        go_quiet (fail)
        go_wp2
        go_roundw
        case rel => exact ⟨i + 1, by go_num, by omega, by rw [← hsv1.out, hs3.out], Lib.hid (hNr.out.drewN _)⟩
        case measure => simp [intOf]; omega
      · have hd : (y == C.other) = false := by simp [e]
        have hs3 : Hid (sv1 = sv0) := by show _ = _; rw [hsi, if_neg e]
        clear e hsi
        go_wp2
        go_quiet (fail)
        go_wp2
        go_roundw
        case rel => exact ⟨i + 1, by go_num, by omega, by rw [← hsv1.out, hs3.out], Lib.hid (hNr.out.drewN _)⟩
        case measure => simp [intOf]; omega
    · have hin : N = i := by omega
      subst hin
      rw [← hq0.out]
      have hil : ¬ (N : Int) < (N : Int) := by omega
      have gmr := Lib.hid (gm.out.new hNr.out)
      have gcr := Lib.hid (gc.out.new hNr.out)
      have gpr := Lib.hid (gp.out.new hNr.out)
      have gqr := Lib.hid (gq.out.new hNr.out)
      have htr := Lib.hid (TL.new ht1.out hNr.out)
      have hsr := Lib.hid (SL.new hs1.out hNr.out)
      have hCr := Lib.hid (hC1.out.new hNr.out)
      have hNw := Lib.hid (hNH.out.next hNr.out)
      clear c0 c1 c2 k0 k1 m1 d2 hlt gm gc gp gq ht1 hs1 hC1 hNH hkeep hst hat
      obtain ⟨c0, c1, c2, c3, c4, c5, c6, c7⟩ := cmd_cells gcr.out
      rw [hkH.out] at c0
      have k0 := gmr.out.cell 0
      have k1 := gmr.out.cell 1
      simp at k0 k1
      obtain ⟨i1, hp0, hi1, hx1⟩ := hfo.out.pos (by rw [← hx0H.out, get_at hPH.out.asc hi0H.out]; rfl)
      subst hp0
      have hiT : i1 < N := by rw [hNl.out]; exact hi1
      have hp1 : (i1 : Int) < (N : Int) := by omega
      have hdel : Hid (del s.shs C.other = s.shs.take i1 ++ s.shs.drop (i1 + 1)) := by
        show _ = _
        rw [← hx1]
        exact del_at hPH.out.asc hi1
      obtain ⟨A', n', V, he, hn2, hn3, _, hc5, hc6⟩ := hsw.out
      injection he with he1 he2 he3
      subst he1
      subst he3
      obtain ⟨g, off, rfl, hg, hc⟩ := hc5 (by omega)
      rw [← hNl.out] at hn2
      unfold maxLen at hn3
      have d0 : (0 : Int) ≤ (i1 : Int) := by omega
      have d1 : (i1 : Int) ≤ (sc : Int) := by omega
      have d2 : i1 ≤ sc := by omega
      have d3 : ¬ sc = 0 := by omega
      have d4 : (i1 : Int) + 1 ≤ (N : Int) := by omega
      have d5 : i1 + 1 ≤ N := by omega
      have d6 : (N : Int) ≤ (sc : Int) := by omega
      have d7 : ((i1 : Int) + 1).toNat = i1 + 1 := by omega
      have d8 : (0 : Int) ≤ (i1 : Int) + 1 := by omega
      have dw : IntKind.i64.wrap ((i1 : Int) + 1) = (i1 : Int) + 1 := by
        exact IntWalk.i64_in _ (by omega)
      obtain ⟨o2, ho2⟩ : ∃ o2, Hid (o2 = if sc = i1 + 1 then off else off + (i1 + 1) * 2) := ⟨_, rfl⟩
      obtain ⟨A1, m1, w1, A2, m2, w2, hr1, hr2, hN1, hN2, hsl⟩ := two_runs (w := w) (wd := wr.drew) (sc := sc) hi1 (by have := hPH.out.len; omega) (Nat.lt_of_lt_of_le hg hNw.out.size) (fun j hj => ⟨(hNw.out.drew.cell (p := ⟨g, off + j * 2, none⟩) hg).trans (hc j hj).1, (hNw.out.drew.cell (p := ⟨g, off + j * 2 + 1, none⟩) hg).trans (hc j hj).2⟩) hc6 hNw.out.drew 40 o2 (fun h => by
        rw [ho2.out, if_neg]
        omega)
      rw [← hNl.out] at hr2 hsl
      rw [← hdel.out] at hsl
      obtain ⟨N1, hNm⟩ : ∃ N1, Hid (N1 = N - 1) := ⟨_, rfl⟩
      rw [← hNm.out] at hr2 hsl
      have hr1 := Lib.hid hr1
      have hr2 := Lib.hid hr2
      have hN1 := Lib.hid hN1
      have hN2 := Lib.hid hN2
      have hsl := Lib.hid hsl
      have hk1 : Hid (w1.cell? ⟨w.heap.size, 1, none⟩ = some (.slice (some ⟨g, off, none⟩) N sc)) := (hN1.out.cell (p := ⟨w.heap.size, 1, none⟩) (lt_of_cell k1)).trans k1
      have hn2' := Lib.hid ((New.refl wr).drew.next hN2.out)
      replace gmr := Lib.hid (gmr.out.new hn2'.out)
      replace gpr := Lib.hid (gpr.out.new hn2'.out)
      replace gqr := Lib.hid (gqr.out.new hn2'.out)
      replace htr := Lib.hid (TL.new htr.out hn2'.out)
      replace hNw := Lib.hid (hNw.out.next hn2'.out)
      clear hc hc6 hc5 he2 hsc hcell hx1 hi1 hpos hst hfo hsr
      by_cases hcc : sc = i1 + 1
      · obtain rfl : N = i1 + 1 := by omega
        subst hcc
        have ho2' := ho2.out
        rw [if_pos rfl] at ho2'
        subst ho2'
        have hr2 := Lib.hid (by have h := hr2.out; rw [Nat.sub_self] at h; exact h)
        have a1 : (i1 : Int) ≤ (i1 : Int) + 1 := by omega
        have a2 : ¬ i1 + 1 = 0 := by omega
        have a3 : i1 ≤ i1 + 1 := by omega
        clear d1 d2 d3 d4 d5 d6 hn2
        go_wp2
        have hr1 := hr1.out
        go_region_law
          (first
            | (refine step_append_run (by rfl) (.tmp 238) (.tmp 242) 40 (by rfl) _ _ (by rfl) (by rfl) hr1 ?_
               have k1 := hk1.out
               have hr2 := hr2.out)
            | (refine step_append_run (by rfl) (.tmp 243) (.tmp 248) 40 (by rfl) _ _ (by rfl) (by rfl) hr2 ?_))
        all_goals
          have k0 := gmr.out.cell 0
          have k1 := gmr.out.cell 1
          simp at k0 k1
          obtain ⟨⟨r0, r1, r2, r3, r4⟩, ⟨y0, y1, y2, y3, y4⟩, ⟨r5, r6, y5, y6⟩, hx⟩ := out_cells gpr.out gqr.out (by omega)
          have hS1 : w2.drew.cell? ⟨w.heap.size, 0, none⟩ = some (.slice A T n) ∧ w2.drew.cell? ⟨w.heap.size, 1, none⟩ = some (.slice (some ⟨g, o2, none⟩) (i1 + 1) (i1 + 1)) := ⟨k0, k1⟩
          have hS6 : (put5 w2 (w.heap.size + 2) (.int .i64 0) (.bool false) (.int .i64 0) (.slice none 0 0) (.slice none 0 0)).drew.cell? ⟨w.heap.size, 0, none⟩ = some (.slice A T n) ∧ (put5 w2 (w.heap.size + 2) (.int .i64 0) (.bool false) (.int .i64 0) (.slice none 0 0) (.slice none 0 0)).drew.cell? ⟨w.heap.size, 1, none⟩ = some (.slice (some ⟨g, o2, none⟩) (i1 + 1) (i1 + 1)) := ⟨((put5_alt w2 _ _ _ _ _ _).drew).cell k0 (by dsimp only; omega), ((put5_alt w2 _ _ _ _ _ _).drew).cell k1 (by dsimp only; omega)⟩
          have hS7 : (putM w2 (w.heap.size + 2) (w.heap.size + 3) (.int .i64 0) (.bool false) (.int .i64 0) (.slice none 0 0) (.slice none 0 0) (.slice A T n) (.slice A2 N1 m2)).drew.cell? ⟨w.heap.size, 0, none⟩ = some (.slice A T n) ∧ (putM w2 (w.heap.size + 2) (w.heap.size + 3) (.int .i64 0) (.bool false) (.int .i64 0) (.slice none 0 0) (.slice none 0 0) (.slice A T n) (.slice A2 N1 m2)).drew.cell? ⟨w.heap.size, 1, none⟩ = some (.slice (some ⟨g, o2, none⟩) (i1 + 1) (i1 + 1)) := ⟨((putM_alt w2 _ _ _ _ _ _ _ _ _).drew).cell k0 (by dsimp only; omega), ((putM_alt w2 _ _ _ _ _ _ _ _ _).drew).cell k1 (by dsimp only; omega)⟩
          have hf := Lib.hid (md_fin (t := Td.no 0) (s := ⟨s.ths, del s.shs C.other⟩) gpr.out gqr.out (by omega) (by omega) hNw.out (TdV.no _ 0) htr.out hsl.out).drew
          go_wp2
          go_region_held3 (fun w' => w'.cell? ⟨w.heap.size, 0, none⟩ = some (.slice A T n) ∧ w'.cell? ⟨w.heap.size, 1, none⟩ = some (.slice (some ⟨g, o2, none⟩) (i1 + 1) (i1 + 1)))
            (first
              | with_reducible exact hS1
              | with_reducible exact hS6
              | with_reducible exact hS7
              | with_reducible assumption)
            (first | fail)
          clear hS1 hS6 hS7
          go_wp2
          exact bodyPost_ret (by simp [results, Try.results9, go_sem, hx.out]) rfl hf.out
      · have ho2' := ho2.out
        rw [if_neg hcc] at ho2'
        subst ho2'
        go_wp2
        have hr1 := hr1.out
        go_region_law
          (first
            | (refine step_append_run (by rfl) (.tmp 238) (.tmp 242) 40 (by rfl) _ _ (by rfl) (by rfl) hr1 ?_
               have k1 := hk1.out
               have hr2 := hr2.out)
            | (refine step_append_run (by rfl) (.tmp 243) (.tmp 248) 40 (by rfl) _ _ (by rfl) (by rfl) hr2 ?_))
        all_goals
          have k0 := gmr.out.cell 0
          have k1 := gmr.out.cell 1
          simp at k0 k1
          obtain ⟨⟨r0, r1, r2, r3, r4⟩, ⟨y0, y1, y2, y3, y4⟩, ⟨r5, r6, y5, y6⟩, hx⟩ := out_cells gpr.out gqr.out (by omega)
          have hS1 : w2.drew.cell? ⟨w.heap.size, 0, none⟩ = some (.slice A T n) ∧ w2.drew.cell? ⟨w.heap.size, 1, none⟩ = some (.slice (some ⟨g, off, none⟩) N sc) := ⟨k0, k1⟩
          have hS6 : (put5 w2 (w.heap.size + 2) (.int .i64 0) (.bool false) (.int .i64 0) (.slice none 0 0) (.slice none 0 0)).drew.cell? ⟨w.heap.size, 0, none⟩ = some (.slice A T n) ∧ (put5 w2 (w.heap.size + 2) (.int .i64 0) (.bool false) (.int .i64 0) (.slice none 0 0) (.slice none 0 0)).drew.cell? ⟨w.heap.size, 1, none⟩ = some (.slice (some ⟨g, off, none⟩) N sc) := ⟨((put5_alt w2 _ _ _ _ _ _).drew).cell k0 (by dsimp only; omega), ((put5_alt w2 _ _ _ _ _ _).drew).cell k1 (by dsimp only; omega)⟩
          have hS7 : (putM w2 (w.heap.size + 2) (w.heap.size + 3) (.int .i64 0) (.bool false) (.int .i64 0) (.slice none 0 0) (.slice none 0 0) (.slice A T n) (.slice A2 N1 m2)).drew.cell? ⟨w.heap.size, 0, none⟩ = some (.slice A T n) ∧ (putM w2 (w.heap.size + 2) (w.heap.size + 3) (.int .i64 0) (.bool false) (.int .i64 0) (.slice none 0 0) (.slice none 0 0) (.slice A T n) (.slice A2 N1 m2)).drew.cell? ⟨w.heap.size, 1, none⟩ = some (.slice (some ⟨g, off, none⟩) N sc) := ⟨((putM_alt w2 _ _ _ _ _ _ _ _ _).drew).cell k0 (by dsimp only; omega), ((putM_alt w2 _ _ _ _ _ _ _ _ _).drew).cell k1 (by dsimp only; omega)⟩
          have hf := Lib.hid (md_fin (t := Td.no 0) (s := ⟨s.ths, del s.shs C.other⟩) gpr.out gqr.out (by omega) (by omega) hNw.out (TdV.no _ 0) htr.out hsl.out).drew
          go_wp2
          go_region_held3 (fun w' => w'.cell? ⟨w.heap.size, 0, none⟩ = some (.slice A T n) ∧ w'.cell? ⟨w.heap.size, 1, none⟩ = some (.slice (some ⟨g, off, none⟩) N sc))
            (first
              | with_reducible exact hS1
              | with_reducible exact hS6
              | with_reducible exact hS7
              | with_reducible assumption)
            (first | fail)
          clear hS1 hS6 hS7
          go_wp2
          exact bodyPost_ret (by simp [results, Try.results9, go_sem, hx.out]) rfl hf.out
end Go.Proofs.Ytmpaheaedaeakaa.pool
