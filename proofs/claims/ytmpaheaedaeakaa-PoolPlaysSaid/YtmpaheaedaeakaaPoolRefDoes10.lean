/-
  The reference's Model.Does: Snap (under way: bears a sorry).
-/
import Derived.Test.YtmpaheaedaeakaaPoolRefDoes9
namespace Go.Proofs.Ytmpaheaedaeakaa.pool
open Go.ChangeShapes Go.WideShapes Go.ChangeAt Go.RowKit Go.Proofs.Ytmpaheaedaeakaa.kit Go.Deep Go.Maps
set_option linter.unusedVariables false
set_option maxRecDepth 100000
theorem filter_more {α : Type} [Inhabited α] (f : Nm × α → Bool) (l : List (Nm × α)) {i : Nat} (h : i < l.length) : (l.take (i + 1)).filter f = (l.take i).filter f ++ (if f (nth l i) = true then [nth l i] else []) := by
  rw [take_more l default h, List.filter_append]
  congr 1
  by_cases e : f (nth l i) = true
  · rw [if_pos e]
    exact List.filter_cons_of_pos e
  · rw [if_neg e]
    exact List.filter_cons_of_neg e
set_option maxHeartbeats 2000000 in
theorem snap_ok (tv sv : Value) (s : PS) (C : Cm) (drive keep : Int) (R : Option Addr) (dc : Nat) (w : World) (ht : TL w tv s.ths) (hs : SL w sv s.shs) (hP : OkP s) (hC : CmOk w C R dc) (hk : C.kind = 7) (hgn : goodN C.other = true) (hg : get s.shs C.other = none) (hl : s.shs.length ≠ 3) :
    Calls Try.prog 9 #[.agg #[tv, sv], .agg (cmL C.kind C.name C.other C.off C.count drive keep R C.dn dc)] w (MdP (doT s C).1 (doT s C).2 w) := by
  have e1 : doT s C = (Td.no 0, ⟨s.ths, put s.shs C.other s.ths⟩) := by unfold doT; rw [if_neg (by omega), if_neg (by omega), if_neg (by omega), if_pos (by omega)]; unfold snapT; rw [if_pos hk]; unfold roomT; simp [hgn, hg, hl]
  rw [e1]
  clear e1
  obtain ⟨W1, hW1, hN1, gm, gc, gp, gq⟩ := does_mem w #[tv, sv] (cmL C.kind C.name C.other C.off C.count drive keep R C.dn dc)
  have hNH := Lib.hid hN1
  have ht1 := Lib.hid (TL.new ht hN1)
  have hs1 := Lib.hid (SL.new hs hN1)
  have hC1 := Lib.hid (hC.new hN1)
  have hPH := Lib.hid hP
  have hat := Lib.hid (thingAt_any tv s.ths C.name W1 (TL.new ht hN1) (by have := hP.th.len; omega))
  obtain ⟨o, hst, hfo⟩ := place_ex hP.asc C.other
  have hst := Lib.hid hst
  have hfo := Lib.hid hfo
  have hlen3 := hP.len
  have hlen4 := hP.th.len
  have hsw := Lib.hid hs
  obtain ⟨SA, sc, U, rfl, _, _, _, hsc, _⟩ := hs
  have hsc := Lib.hid hsc
  obtain ⟨A, n, rfl⟩ := ht.form
  obtain ⟨N, hNl⟩ : ∃ N, Hid (N = s.shs.length) := ⟨_, rfl⟩
  obtain ⟨T, hTl⟩ : ∃ T, Hid (T = s.ths.length) := ⟨_, rfl⟩
  have hcell : Hid (0 < N → ∃ g off, SA = some ⟨g, off, none⟩ ∧ g < w.heap.size ∧ ∀ i, i < N → w.cell? ⟨g, off + i * 2, none⟩ = some (encStr (nth s.shs i).1) ∧ w.cell? ⟨g, off + i * 2 + 1, none⟩ = some (U i)) := by
    rw [hNl.out]
    exact hsc.out
  rw [← hNl.out] at gm hs1 hlen3 hW1 hsw ⊢
  rw [← hTl.out] at gm ht1 hat hlen4 hW1 ⊢
  have hst : Hid (∀ k, k < N → shV o (k + 1) = if (nth s.shs k).1 = C.other then (k : Int) else shV o k) := by
    rw [hNl.out]
    exact hst.out
  obtain ⟨q0, hq0⟩ : ∃ q0, Hid (q0 = shV o N) := ⟨_, rfl⟩
  have hfo : Hid (posI s.shs C.other q0) := by
    show posI _ _ _
    rw [hq0.out, hNl.out]
    exact hfo.out
  obtain ⟨c0, c1, c2, c3, c4, c5, c6, c7⟩ := cmd_cells gc.out
  rw [hk] at c0
  have k0 := gm.out.cell 0
  have k1 := gm.out.cell 1
  simp at k0 k1
  have hkeep : Hid (∀ w', New W1 w' → w'.cell? ⟨w.heap.size, 1, none⟩ = some (.slice SA N sc) ∧ w'.cell? ⟨w.heap.size + 1, 2, none⟩ = some (encStr C.other)) := fun w' h => ⟨(h.cell (lt_of_cell k1)).trans k1, (h.cell (lt_of_cell c2)).trans c2⟩
  have hkH := Lib.hid hk
  clear hN1 ht hP hC hk c3 c4 c5 c6 c7 hsc
  go_enter Try.func9, Try.ntmps9
  go_upto_region 1 with fail
  rw [← hW1]
  clear hW1
  rw [show w.heap.size + 1 + 1 + 1 = w.heap.size + 3 from rfl, show w.heap.size + 1 + 1 = w.heap.size + 2 from rfl]
  go_wp2_with (go_at_call 18; refine hat.out.mono ?_; rintro e w2 ⟨p, rfl, hpos, rfl⟩; have hpos := Lib.hid hpos)
  go_loopw [32, 8] (fun q sh wr => ∃ i : Nat, q = .int .i64 (i : Nat) ∧ i ≤ N ∧ sh = .int .i64 (shV o i) ∧ Hid (New W1 wr)) (fun q _ _ => N - (intOf q).toNat)
  case atStart => exact ⟨0, rfl, Nat.zero_le _, by rw [shV_0], Lib.hid (New.refl _)⟩
  case round =>
    obtain ⟨i, rfl, hi, rfl, hNr⟩ := hrel
    obtain ⟨m1, d2⟩ := hkeep.out wr hNr.out
    by_cases hlt : i < N
    · obtain ⟨g, off, rfl, hg, hc⟩ := hcell.out (by omega)
      have e0 := ((hNH.out.next hNr.out).cell (p := ⟨g, off + i * 2, none⟩) hg).trans (hc i hlt).1
      have hil : (i : Int) < (N : Int) := by omega
      have hsi := hst.out i hlt
      obtain ⟨y, hy⟩ : ∃ y, Hid (y = (nth s.shs i).1) := ⟨_, rfl⟩
      rw [← hy.out] at e0 hsi
      obtain ⟨sv1, hsv1⟩ : ∃ v, Hid (v = shV o (i + 1)) := ⟨_, rfl⟩
      rw [← hsv1.out] at hsi
      obtain ⟨sv0, hsv0⟩ : ∃ v, Hid (v = shV o i) := ⟨_, rfl⟩
      rw [← hsv0.out] at hsi ⊢
      clear hc k0 k1 c0 c1 c2
      by_cases e : y = C.other
      · have hd : (y == C.other) = true := by simp [e]
        have hs3 : Hid (sv1 = (i : Int)) := by show _ = _; rw [hsi, if_pos e]
        clear e hsi
        go_wp2
        go_quiet (fail)
        go_wp2
        go_roundw
        case rel => exact ⟨i + 1, by go_num, by omega, by rw [← hsv1.out, hs3.out], Lib.hid (hNr.out.drewN _)⟩
        case measure => simp [intOf]; omega
      · have hd : (y == C.other) = false := by simp [e]
        have hs3 : Hid (sv1 = sv0) := by show _ = _; rw [hsi, if_neg e]
        clear e hsi
        go_wp2
        go_quiet (fail)
        go_wp2
        go_roundw
        case rel => exact ⟨i + 1, by go_num, by omega, by rw [← hsv1.out, hs3.out], Lib.hid (hNr.out.drewN _)⟩
        case measure => simp [intOf]; omega
    · have hin : N = i := by omega
      subst hin
      rw [← hq0.out]
      have hil : ¬ (N : Int) < (N : Int) := by omega
      have gmr := Lib.hid (gm.out.new hNr.out)
      have gcr := Lib.hid (gc.out.new hNr.out)
      have gpr := Lib.hid (gp.out.new hNr.out)
      have gqr := Lib.hid (gq.out.new hNr.out)
      have htr := Lib.hid (TL.new ht1.out hNr.out)
      have hsr := Lib.hid (SL.new hs1.out hNr.out)
      have hCr := Lib.hid (hC1.out.new hNr.out)
      have hNw := Lib.hid (hNH.out.next hNr.out)
      clear c0 c1 c2 k0 k1 m1 d2 hlt gm gc gp gq ht1 hs1 hC1 hNH hkeep hst hat
      obtain ⟨c0, c1, c2, c3, c4, c5, c6, c7⟩ := cmd_cells gcr.out
      rw [hkH.out] at c0
      have k0 := gmr.out.cell 0
      have k1 := gmr.out.cell 1
      simp at k0 k1
      have hsplit := Lib.hid (put_split (v := s.ths) hPH.out.asc hg)
      have hgd : Hid (Calls Try.prog 19 #[encStr C.other] wr fun e w' => e = .returned (.bool true) ∧ wr = w') := by show Calls _ _ _ _ _; rw [← hgn]; exact goodName_any C.other hCr.out.ol wr
      clear hgn
      have hp1 : q0 = -1 := hfo.out.neg hPH.out.asc hg
      subst hp1
      clear hg
      have f1 : ¬ (3 : Int) ≤ (N : Int) := by have := hNl.out; omega
      clear hl
      obtain ⟨i0, hi0, hz0, hz1, hz2⟩ := info_parts infoShotR
      obtain ⟨A', n', V, he, _, _, _, hc5, hc6⟩ := hsw.out
      injection he with he1 he2 he3
      subst he1
      clear he2 he3
      have hfm := Lib.hid (fun i h => filter_more (fun p => decide (p.1 < C.other)) s.shs (i := i) h)
      have hrd : Hid (0 < N → ∃ g off, SA = some ⟨g, off, none⟩ ∧ g < w.heap.size ∧ ∀ i, i < N → w.cell? ⟨g, off + i * 2, none⟩ = some (encStr (nth s.shs i).1) ∧ w.cell? ⟨g, off + i * 2 + 1, none⟩ = some (V i)) := by
        rw [hNl.out]
        exact hc5
      have hc6H : Hid (∀ i, i < N → TL w (V i) (nth s.shs i).2) := fun i hi => (hc6 i (by have := hNl.out; omega)).1
      clear hc5 hc6
      go_wp2_with (go_at_call 19; refine hgd.out.mono ?_; rintro e w9 ⟨rfl, rfl⟩)
      obtain ⟨wo, hwo⟩ : ∃ wo, wo = wr := ⟨_, rfl⟩
      subst hwo
      have hmkeep : Hid (∀ w', New wo w' → w'.cell? ⟨w.heap.size, 0, none⟩ = some (.slice A T n) ∧ w'.cell? ⟨w.heap.size, 1, none⟩ = some (.slice SA N sc) ∧ w'.cell? ⟨w.heap.size + 1, 2, none⟩ = some (encStr C.other)) := fun w' h => ⟨(h.cell (lt_of_cell k0)).trans k0, (h.cell (lt_of_cell k1)).trans k1, (h.cell (lt_of_cell c2)).trans c2⟩
      clear k0 k1 c0 c1 c2 c3 c4 c5 c6 c7
      go_loopw [168, 16] (fun q ov wx => ∃ (i : Nat) (U : Nat → Value), q = .int .i64 (i : Nat) ∧ i ≤ N ∧ Hid (OL (TL wo) wo.heap.size 60 wx ov ((s.shs.take i).filter fun p => decide (p.1 < C.other)) U) ∧ Hid (New wo wx)) (fun q _ _ => N - (intOf q).toNat)
      case atStart => exact ⟨0, fun _ => .slice none 0 0, rfl, Nat.zero_le _, OL.nil _ _ _ _ _, Lib.hid (New.refl _)⟩
      case round =>
        obtain ⟨i, U2, rfl, hi, hO, hN⟩ := hrel
        by_cases hlt : i < N
        · obtain ⟨g, off, rfl, hg, hc⟩ := hrd.out (by omega)
          have e0 := ((hNw.out.next hN.out).cell (p := ⟨g, off + i * 2, none⟩) hg).trans (hc i hlt).1
          have e1 := ((hNw.out.next hN.out).cell (p := ⟨g, off + i * 2 + 1, none⟩) hg).trans (hc i hlt).2
          have hil : (i : Int) < (N : Int) := by omega
          have hfi := Lib.hid (hfm.out i (by have := hNl.out; omega))
          have htl := Lib.hid (TL.new (hc6H.out i hlt) hNw.out)
          obtain ⟨acc, hacc⟩ : ∃ acc, Hid (acc = (s.shs.take i).filter fun p => decide (p.1 < C.other)) := ⟨_, rfl⟩
          rw [← hacc.out] at hO hfi
          have hal : acc.length ≤ i := by
            rw [hacc.out]
            exact Nat.le_trans (List.length_filter_le _ _) (by rw [List.length_take]; omega)
          obtain ⟨yy, hyy⟩ : ∃ yy, Hid (yy = nth s.shs i) := ⟨_, rfl⟩
          rw [← hyy.out] at e0 hfi htl
          obtain ⟨y, l2⟩ := yy
          obtain ⟨Y, yc, hV⟩ := htl.out.form
          obtain ⟨yn, hyn⟩ : ∃ yn, Hid (yn = l2.length) := ⟨_, rfl⟩
          rw [show ((y, l2) : Nm × Ths).2 = l2 from rfl, ← hyn.out] at hV
          rw [hV] at e1 htl
          rw [show ((y, l2) : Nm × Ths).1 = y from rfl] at e0 hfi
          obtain ⟨W2, hW2⟩ : ∃ W2, W2 = wr.alloc (.cells #[encStr y, .slice Y yn yc] 60) := ⟨_, rfl⟩
          have hn2 : New wr W2 := by rw [hW2]; exact (New.refl wr).alloc _
          have hyb : Blk W2 wr.heap.size 60 #[encStr y, .slice Y yn yc] := by rw [hW2]; exact Blk.fresh _ _ _
          have b0 := hyb.cell 0
          have b1 := hyb.cell 1
          simp at b0 b1
          have hN2 := Lib.hid (hN.out.next hn2)
          obtain ⟨m0, m1, d2⟩ := hmkeep.out W2 hN2.out
          have hO2 := Lib.hid (OL.new (rd' := TL wo) hO.out hn2 fun _ _ h => h)
          have hown := hO2.out.1
          have hs2 : wr.heap.size < W2.heap.size := hyb.lt
          have hnz := hN.out.size
          clear hc hV m0 m1
          by_cases hlo : y < C.other
          · have hd : Op.bytesLess y C.other = true := less_of hlo
            rw [if_pos (by simpa using hlo)] at hfi
            clear hlo
            go_upto_region 53 with fail
            rw [← hW2]
            clear hW2
            go_wp2_with (at_builtin; refine wpList_append_lies _ rfl _ _ 40 rfl wo.heap.size 60 i0 _ 2 40 Try.underlying40 hi0 hz0 hz1 hz2 rfl (by decide) u16 _ (lsL acc U2) rfl (hown.alloc _) ⟨W2.heap.size, 0, none⟩ 1 1 [encStr y, .slice Y yn yc] rfl rfl (World.news_of_block (cs := #[.string _, .slice _ _ _]) (t := 60) (fr := (0, 0)) (heap_alloc_new W2 _)) (by simp [Value.oneCell', encStr]) (by omega) (by unfold maxLen; omega) (by omega) (by simp; omega) _ rfl ?_; intro g6 c6 w6 hown6 hgr6 hat6 hlt6; have hgr6 := Lib.hid hgr6; have hown6 := Lib.hid hown6; have hat6 := Lib.hid hat6)
            go_roundw
            case rel =>
              refine ⟨i + 1, (fun j => if j = acc.length then .slice Y yn yc else U2 j), by go_num, by omega, ?_, (hN2.out.alloc _).grown hgr6.out fun r e => (hO2.out.1.lt r e).1⟩
              show OL _ _ _ _ _ _ _
              rw [hfi.out]
              exact (push_step (rd' := TL wo) (y := (y, l2)) (u := .slice Y yn yc) (cs := #[encStr y, .slice Y yn yc]) hO2.out hgr6.out hown6.out (fun _ _ h => h) htl.out rfl).1
            case measure => simp [intOf]; omega
          · have hd : Op.bytesLess y C.other = false := less_not hlo
            rw [if_neg (by simpa using hlo)] at hfi
            clear hlo
            go_upto_region 53 with fail
            rw [← hW2]
            clear hW2
            go_wp2
            go_roundw
            case rel => exact ⟨i + 1, U2, by go_num, by omega, by show OL _ _ _ _ _ _ _; rw [hfi.out, List.append_nil]; exact hO2.out, hN2⟩
            case measure => simp [intOf]; omega
        · have hin : N = i := by omega
          have hil : ¬ (i : Int) < (N : Int) := by omega
          obtain ⟨acc, hacc⟩ : ∃ acc, Hid (acc = s.shs.filter fun p => decide (p.1 < C.other)) := ⟨_, rfl⟩
          rw [show s.shs.take i = s.shs from List.take_of_length_le (by have := hNl.out; omega), ← hacc.out] at hO
          have hal : acc.length ≤ N := by
            rw [hacc.out, hNl.out]
            exact List.length_filter_le _ _
          have hnz := hN.out.size
          have hOH := Lib.hid hO.out
          have hown := hO.out.1
          have htv := Lib.hid htr.out
          obtain ⟨m0, m1, d2⟩ := hmkeep.out wr hN.out
          clear hin
          go_wp2_with (at_builtin; refine wpList_append_lies _ rfl _ _ 40 rfl wo.heap.size 60 i0 _ 2 40 Try.underlying40 hi0 hz0 hz1 hz2 rfl (by decide) u16 _ (lsL acc U2) rfl (hown.alloc _) ⟨wr.heap.size, 0, none⟩ 1 1 [encStr C.other, .slice A T n] rfl rfl (World.news_of_block (cs := #[.string _, .slice _ _ _]) (t := 60) (fr := (0, 0)) (heap_alloc_new wr _)) (by simp [Value.oneCell', encStr]) (by omega) (by unfold maxLen; omega) (by omega) (by simp; omega) _ rfl ?_; intro g6 c6 w6 hown6 hgr6 hat6 hlt6; have hn6 := Lib.hid ((hN.out.alloc (.cells #[encStr C.other, .slice A T n] 60)).grown hgr6 fun r e => (hOH.out.1.lt r e).1); obtain ⟨n0, n1, p2⟩ := hmkeep.out w6 hn6.out; have hgr6 := Lib.hid hgr6; have hown6 := Lib.hid hown6)
          have hO6 : Hid (OL (TL wo) wo.heap.size 60 w6 (.slice (some ⟨g6, 0, none⟩) (acc.length + 1) c6) (acc ++ [(C.other, s.ths)]) (fun j => if j = acc.length then .slice A T n else U2 j)) := (push_step (rd' := TL wo) (y := (C.other, s.ths)) (u := .slice A T n) (cs := #[encStr C.other, .slice A T n]) hOH.out hgr6.out hown6.out (fun _ _ h => h) htv.out rfl).1
          have hgm := Lib.hid (fun i h => filter_more (fun p => decide (C.other < p.1)) s.shs (i := i) h)
          clear n0 n1 p2 m0 m1 d2 hown hO hil hlt hown6 hgr6 hat6 hlt6
          go_loopw [193, 16] (fun q ov wx => ∃ (i : Nat) (V : Nat → Value), q = .int .i64 (i : Nat) ∧ i ≤ N ∧ Hid (OL (TL wo) wo.heap.size 60 wx ov (acc ++ (C.other, s.ths) :: ((s.shs.take i).filter fun p => decide (C.other < p.1))) V) ∧ Hid (New wo wx)) (fun q _ _ => N - (intOf q).toNat)
          case atStart => exact ⟨0, _, rfl, Nat.zero_le _, hO6, hn6⟩
          case round =>
            obtain ⟨i, U3, rfl, hi, hO, hN⟩ := hrel
            by_cases hlt : i < N
            · obtain ⟨g, off, rfl, hg, hc⟩ := hrd.out (by omega)
              have e0 := ((hNw.out.next hN.out).cell (p := ⟨g, off + i * 2, none⟩) hg).trans (hc i hlt).1
              have e1 := ((hNw.out.next hN.out).cell (p := ⟨g, off + i * 2 + 1, none⟩) hg).trans (hc i hlt).2
              have hil : (i : Int) < (N : Int) := by omega
              have hfi := Lib.hid (hgm.out i (by have := hNl.out; omega))
              have htl := Lib.hid (TL.new (hc6H.out i hlt) hNw.out)
              obtain ⟨fl, hfl⟩ : ∃ fl, Hid (fl = (s.shs.take i).filter fun p => decide (C.other < p.1)) := ⟨_, rfl⟩
              rw [← hfl.out] at hO hfi
              have hal2 : fl.length ≤ i := by
                rw [hfl.out]
                exact Nat.le_trans (List.length_filter_le _ _) (by rw [List.length_take]; omega)
              obtain ⟨ac5, hac5⟩ : ∃ ac5, Hid (ac5 = acc ++ (C.other, s.ths) :: fl) := ⟨_, rfl⟩
              have hal5 : ac5.length = acc.length + 1 + fl.length := by rw [hac5.out, List.length_append, List.length_cons]; omega
              rw [← hac5.out] at hO
              obtain ⟨yy, hyy⟩ : ∃ yy, Hid (yy = nth s.shs i) := ⟨_, rfl⟩
              rw [← hyy.out] at e0 hfi htl
              obtain ⟨y, l2⟩ := yy
              obtain ⟨Y, yc, hV⟩ := htl.out.form
              obtain ⟨yn, hyn⟩ : ∃ yn, Hid (yn = l2.length) := ⟨_, rfl⟩
              rw [show ((y, l2) : Nm × Ths).2 = l2 from rfl, ← hyn.out] at hV
              rw [hV] at e1 htl
              rw [show ((y, l2) : Nm × Ths).1 = y from rfl] at e0 hfi
              obtain ⟨W2, hW2⟩ : ∃ W2, W2 = wr.alloc (.cells #[encStr y, .slice Y yn yc] 60) := ⟨_, rfl⟩
              have hn2 : New wr W2 := by rw [hW2]; exact (New.refl wr).alloc _
              have hyb : Blk W2 wr.heap.size 60 #[encStr y, .slice Y yn yc] := by rw [hW2]; exact Blk.fresh _ _ _
              have b0 := hyb.cell 0
              have b1 := hyb.cell 1
              simp at b0 b1
              have hN2 := Lib.hid (hN.out.next hn2)
              obtain ⟨m0, m1, d2⟩ := hmkeep.out W2 hN2.out
              have hO2 := Lib.hid (OL.new (rd' := TL wo) hO.out hn2 fun _ _ h => h)
              have hown := hO2.out.1
              have hs2 : wr.heap.size < W2.heap.size := hyb.lt
              have hnz2 := hN.out.size
              have hacl : ac5.length ≤ 8 := by omega
              have halH := Lib.hid hal5
              clear hc hV m0 m1 hal5
              by_cases hlo : C.other < y
              · have hd : Op.bytesLess y C.other = false := less_not fun h => nm_irrefl _ (nm_trans h hlo)
                have hd2 : (y == C.other) = false := by
                  have : y ≠ C.other := fun e => by rw [e] at hlo; exact nm_irrefl _ hlo
                  simpa using this
                rw [if_pos (by simpa using hlo)] at hfi
                clear hlo
                go_upto_region 60 with fail
                rw [← hW2]
                clear hW2
                go_wp2_with (at_builtin; refine wpList_append_lies _ rfl _ _ 40 rfl wo.heap.size 60 i0 _ 2 40 Try.underlying40 hi0 hz0 hz1 hz2 rfl (by decide) u16 _ (lsL ac5 U3) rfl (hown.alloc _) ⟨W2.heap.size, 0, none⟩ 1 1 [encStr y, .slice Y yn yc] rfl rfl (World.news_of_block (cs := #[.string _, .slice _ _ _]) (t := 60) (fr := (0, 0)) (heap_alloc_new W2 _)) (by simp [Value.oneCell', encStr]) (by omega) (by unfold maxLen; omega) (by omega) (by simp; omega) _ rfl ?_; intro g8 c8 w8 hown8 hgr8 hat8 hlt8; have hgr8 := Lib.hid hgr8; have hown8 := Lib.hid hown8; have hat8 := Lib.hid hat8)
                go_roundw
                case rel =>
                  refine ⟨i + 1, (fun j => if j = ac5.length then .slice Y yn yc else U3 j), by go_num, by omega, ?_, (hN2.out.alloc _).grown hgr8.out fun r e => (hO2.out.1.lt r e).1⟩
                  show OL _ _ _ _ _ _ _
                  have hps := (push_step (rd' := TL wo) (y := (y, l2)) (u := .slice Y yn yc) (cs := #[encStr y, .slice Y yn yc]) hO2.out hgr8.out hown8.out (fun _ _ h => h) htl.out rfl).1
                  rw [hfi.out]
                  rw [hac5.out, List.append_assoc] at hps
                  rw [hac5.out]
                  exact hps
                case measure => simp [intOf]; omega
              · rw [if_neg (by simpa using hlo)] at hfi
                by_cases hyo : y = C.other
                · have hd2 : (y == C.other) = true := by simpa using hyo
                  clear hlo hyo
                  go_upto_region 60 with fail
                  rw [← hW2]
                  clear hW2
                  go_wp2
                  go_roundw
                  case rel => exact ⟨i + 1, U3, by go_num, by omega, by show OL _ _ _ _ _ _ _; rw [hfi.out, List.append_nil, ← hac5.out]; exact hO2.out, hN2⟩
                  case measure => simp [intOf]; omega
                · have hd : Op.bytesLess y C.other = true := less_of (by
                    by_cases h2 : y < C.other
                    · exact h2
                    · exact absurd (nm_tri h2 hlo) hyo)
                  clear hlo hyo
                  go_upto_region 60 with fail
                  rw [← hW2]
                  clear hW2
                  go_wp2
                  go_roundw
                  case rel => exact ⟨i + 1, U3, by go_num, by omega, by show OL _ _ _ _ _ _ _; rw [hfi.out, List.append_nil, ← hac5.out]; exact hO2.out, hN2⟩
                  case measure => simp [intOf]; omega
            · have hin : N = i := by omega
              have hil : ¬ (i : Int) < (N : Int) := by omega
              rw [show s.shs.take i = s.shs from List.take_of_length_le (by have := hNl.out; omega), hacc.out, ← hsplit.out] at hO
              obtain ⟨pn, hpn⟩ : ∃ pn, Hid (pn = (put s.shs C.other s.ths).length) := ⟨_, rfl⟩
              have hsl : Hid (SL wr u16 (put s.shs C.other s.ths)) := LL.new hO.out.ll (New.refl _) fun _ _ h => TL.new h hN.out
              obtain ⟨OA, oc, hov⟩ := LL.form hsl.out
              rw [← hpn.out] at hov
              subst hov
              replace gmr := Lib.hid (gmr.out.new hN.out)
              replace gpr := Lib.hid (gpr.out.new hN.out)
              replace gqr := Lib.hid (gqr.out.new hN.out)
              replace htr := Lib.hid (TL.new htr.out hN.out)
              replace hNw := Lib.hid (hNw.out.next hN.out)
              have k0 := gmr.out.cell 0
              have k1 := gmr.out.cell 1
              simp at k0 k1
              clear hlt hO hin
              obtain ⟨⟨r0, r1, r2, r3, r4⟩, ⟨y0, y1, y2, y3, y4⟩, ⟨r5, r6, y5, y6⟩, hx⟩ := out_cells gpr.out gqr.out (by omega)
              have hS1 : wr.drew.cell? ⟨w.heap.size, 0, none⟩ = some (.slice A T n) ∧ wr.drew.cell? ⟨w.heap.size, 1, none⟩ = some (.slice SA N sc) := ⟨k0, k1⟩
              have hS6 : (put5 wr (w.heap.size + 2) (.int .i64 0) (.bool false) (.int .i64 0) (.slice none 0 0) (.slice none 0 0)).drew.cell? ⟨w.heap.size, 0, none⟩ = some (.slice A T n) ∧ (put5 wr (w.heap.size + 2) (.int .i64 0) (.bool false) (.int .i64 0) (.slice none 0 0) (.slice none 0 0)).drew.cell? ⟨w.heap.size, 1, none⟩ = some (.slice SA N sc) := ⟨((put5_alt wr _ _ _ _ _ _).drew).cell k0 (by dsimp only; omega), ((put5_alt wr _ _ _ _ _ _).drew).cell k1 (by dsimp only; omega)⟩
              have hS7 : (putM wr (w.heap.size + 2) (w.heap.size + 3) (.int .i64 0) (.bool false) (.int .i64 0) (.slice none 0 0) (.slice none 0 0) (.slice A T n) (.slice OA pn oc)).drew.cell? ⟨w.heap.size, 0, none⟩ = some (.slice A T n) ∧ (putM wr (w.heap.size + 2) (w.heap.size + 3) (.int .i64 0) (.bool false) (.int .i64 0) (.slice none 0 0) (.slice none 0 0) (.slice A T n) (.slice OA pn oc)).drew.cell? ⟨w.heap.size, 1, none⟩ = some (.slice SA N sc) := ⟨((putM_alt wr _ _ _ _ _ _ _ _ _).drew).cell k0 (by dsimp only; omega), ((putM_alt wr _ _ _ _ _ _ _ _ _).drew).cell k1 (by dsimp only; omega)⟩
              have hf := Lib.hid (md_fin (t := Td.no 0) (s := ⟨s.ths, put s.shs C.other s.ths⟩) gpr.out gqr.out (by omega) (by omega) hNw.out (TdV.no _ 0) htr.out hsl.out).drew
              go_wp2
              go_region_held3 (fun w' => w'.cell? ⟨w.heap.size, 0, none⟩ = some (.slice A T n) ∧ w'.cell? ⟨w.heap.size, 1, none⟩ = some (.slice SA N sc))
                (first
                  | with_reducible exact hS1
                  | with_reducible exact hS6
                  | with_reducible exact hS7
                  | with_reducible assumption)
                (first | fail)
              clear hS1 hS6 hS7
              go_wp2
              exact bodyPost_ret (by simp [results, Try.results9, go_sem, hx.out]) rfl hf.out
end Go.Proofs.Ytmpaheaedaeakaa.pool
