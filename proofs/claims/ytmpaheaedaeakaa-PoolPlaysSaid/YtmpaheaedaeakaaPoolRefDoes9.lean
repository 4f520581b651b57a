/-
  The reference's Model.Does: List, Snaps.
-/
import Derived.Test.YtmpaheaedaeakaaPoolRefDoes8
namespace Go.Proofs.Ytmpaheaedaeakaa.pool
open Go.ChangeShapes Go.WideShapes Go.ChangeAt Go.RowKit Go.Proofs.Ytmpaheaedaeakaa.kit Go.Deep Go.Maps
set_option linter.unusedVariables false
set_option maxRecDepth 100000
theorem own_base0 {w : World} {b e z n : Nat} {v : Value} {xs : List Value} (h : w.ownsRow b e z v n xs) : w.ownsRow 0 e z v n xs := by
  refine ⟨h.1, ?_⟩
  rcases h.2 with h | ⟨g, cap, cur, h0, hb, hr⟩
  · exact .inl h
  · exact .inr ⟨g, cap, cur, h0, Nat.zero_le _, hr⟩
theorem infoStr : (Try.prog.info? 9).map (fun i => (i.zero, i.size, i.bytes)) = some (some (encStr []), 1, 16) := by kernel_rfl
theorem names_more {α : Type} [Inhabited α] (l : List (Nm × α)) (i : Nat) (h : i < l.length) : ((l.take (i + 1)).map (·.1)).map encStr = ((l.take i).map (·.1)).map encStr ++ [encStr (nth l i).1] := by
  rw [take_more l default h]
  simp [nth]
set_option maxHeartbeats 2000000 in
theorem list_ok (tv sv : Value) (s : PS) (C : Cm) (drive keep : Int) (R : Option Addr) (dc : Nat) (w : World) (ht : TL w tv s.ths) (hs : SL w sv s.shs) (hP : OkP s) (hC : CmOk w C R dc) (hk : C.kind = 6) :
    Calls Try.prog 9 #[.agg #[tv, sv], .agg (cmL C.kind C.name C.other C.off C.count drive keep R C.dn dc)] w (MdP (doT s C).1 (doT s C).2 w) := by
  have e1 : doT s C = (⟨0, 0, By.none, s.ths.map (·.1)⟩, s) := by unfold doT; rw [if_neg (by omega), if_pos hk]
  rw [e1]
  clear e1
  obtain ⟨W1, hW1, hN1, gm, gc, gp, gq⟩ := does_mem w #[tv, sv] (cmL C.kind C.name C.other C.off C.count drive keep R C.dn dc)
  have hNH := Lib.hid hN1
  have ht1 := Lib.hid (TL.new ht hN1)
  have hs1 := Lib.hid (SL.new hs hN1)
  have hC1 := Lib.hid (hC.new hN1)
  have hPH := Lib.hid hP
  have hat := Lib.hid (thingAt_any tv s.ths C.name W1 (TL.new ht hN1) (by have := hP.th.len; omega))
  obtain ⟨o, hst, hfo⟩ := place_ex hP.asc C.other
  have hst := Lib.hid hst
  have hfo := Lib.hid hfo
  have hlen3 := hP.len
  have hlen4 := hP.th.len
  have hsw := Lib.hid hs
  obtain ⟨SA, sc, U, rfl, _, _, _, hsc, _⟩ := hs
  have hsc := Lib.hid hsc
  obtain ⟨A, n, rfl⟩ := ht.form
  obtain ⟨N, hNl⟩ : ∃ N, Hid (N = s.shs.length) := ⟨_, rfl⟩
  obtain ⟨T, hTl⟩ : ∃ T, Hid (T = s.ths.length) := ⟨_, rfl⟩
  have hcell : Hid (0 < N → ∃ g off, SA = some ⟨g, off, none⟩ ∧ g < w.heap.size ∧ ∀ i, i < N → w.cell? ⟨g, off + i * 2, none⟩ = some (encStr (nth s.shs i).1) ∧ w.cell? ⟨g, off + i * 2 + 1, none⟩ = some (U i)) := by
    rw [hNl.out]
    exact hsc.out
  rw [← hNl.out] at gm hs1 hlen3 hW1 hsw ⊢
  rw [← hTl.out] at gm ht1 hat hlen4 hW1 ⊢
  have hst : Hid (∀ k, k < N → shV o (k + 1) = if (nth s.shs k).1 = C.other then (k : Int) else shV o k) := by
    rw [hNl.out]
    exact hst.out
  obtain ⟨q0, hq0⟩ : ∃ q0, Hid (q0 = shV o N) := ⟨_, rfl⟩
  have hfo : Hid (posI s.shs C.other q0) := by
    show posI _ _ _
    rw [hq0.out, hNl.out]
    exact hfo.out
  obtain ⟨c0, c1, c2, c3, c4, c5, c6, c7⟩ := cmd_cells gc.out
  rw [hk] at c0
  have k0 := gm.out.cell 0
  have k1 := gm.out.cell 1
  simp at k0 k1
  have hkeep : Hid (∀ w', New W1 w' → w'.cell? ⟨w.heap.size, 1, none⟩ = some (.slice SA N sc) ∧ w'.cell? ⟨w.heap.size + 1, 2, none⟩ = some (encStr C.other)) := fun w' h => ⟨(h.cell (lt_of_cell k1)).trans k1, (h.cell (lt_of_cell c2)).trans c2⟩
  have hkH := Lib.hid hk
  have htw : Hid (TL w (.slice A T n) s.ths) := by show TL _ _ _; rw [hTl.out]; exact ht
  clear hN1 ht hP hC hk c3 c4 c5 c6 c7 hsc
  go_enter Try.func9, Try.ntmps9
  go_upto_region 1 with fail
  rw [← hW1]
  clear hW1
  rw [show w.heap.size + 1 + 1 + 1 = w.heap.size + 3 from rfl, show w.heap.size + 1 + 1 = w.heap.size + 2 from rfl]
  go_wp2_with (go_at_call 18; refine hat.out.mono ?_; rintro e w2 ⟨p, rfl, hpos, rfl⟩; have hpos := Lib.hid hpos)
  go_loopw [32, 8] (fun q sh wr => ∃ i : Nat, q = .int .i64 (i : Nat) ∧ i ≤ N ∧ sh = .int .i64 (shV o i) ∧ Hid (New W1 wr)) (fun q _ _ => N - (intOf q).toNat)
  case atStart => exact ⟨0, rfl, Nat.zero_le _, by rw [shV_0], Lib.hid (New.refl _)⟩
  case round =>
    obtain ⟨i, rfl, hi, rfl, hNr⟩ := hrel
    obtain ⟨m1, d2⟩ := hkeep.out wr hNr.out
    by_cases hlt : i < N
    · obtain ⟨g, off, rfl, hg, hc⟩ := hcell.out (by omega)
      have e0 := ((hNH.out.next hNr.out).cell (p := ⟨g, off + i * 2, none⟩) hg).trans (hc i hlt).1
      have hil : (i : Int) < (N : Int) := by omega
      have hsi := hst.out i hlt
      obtain ⟨y, hy⟩ : ∃ y, Hid (y = (nth s.shs i).1) := ⟨_, rfl⟩
      rw [← hy.out] at e0 hsi
      obtain ⟨sv1, hsv1⟩ : ∃ v, Hid (v = shV o (i + 1)) := ⟨_, rfl⟩
      rw [← hsv1.out] at hsi
      obtain ⟨sv0, hsv0⟩ : ∃ v, Hid (v = shV o i) := ⟨_, rfl⟩
      rw [← hsv0.out] at hsi ⊢
      clear hc k0 k1 c0 c1 c2
      by_cases e : y = C.other
      · have hd : (y == C.other) = true := by simp [e]
        have hs3 : Hid (sv1 = (i : Int)) := by show _ = _; rw [hsi, if_pos e]
        clear e hsi
        go_wp2
        go_quiet (fail)
        go_wp2
        go_roundw
        case rel => exact ⟨i + 1, by go_num, by omega, by rw [← hsv1.out, hs3.out], Lib.hid (hNr.out.drewN _)⟩
        case measure => simp [intOf]; omega
      · have hd : (y == C.other) = false := by simp [e]
        have hs3 : Hid (sv1 = sv0) := by show _ = _; rw [hsi, if_neg e]
        clear e hsi
        go_wp2
        go_quiet (fail)
        go_wp2
        go_roundw
        case rel => exact ⟨i + 1, by go_num, by omega, by rw [← hsv1.out, hs3.out], Lib.hid (hNr.out.drewN _)⟩
        case measure => simp [intOf]; omega
    · have hin : N = i := by omega
      subst hin
      rw [← hq0.out]
      have hil : ¬ (N : Int) < (N : Int) := by omega
      have gmr := Lib.hid (gm.out.new hNr.out)
      have gcr := Lib.hid (gc.out.new hNr.out)
      have gpr := Lib.hid (gp.out.new hNr.out)
      have gqr := Lib.hid (gq.out.new hNr.out)
      have htr := Lib.hid (TL.new ht1.out hNr.out)
      have hsr := Lib.hid (SL.new hs1.out hNr.out)
      have hCr := Lib.hid (hC1.out.new hNr.out)
      have hNw := Lib.hid (hNH.out.next hNr.out)
      clear c0 c1 c2 k0 k1 m1 d2 hlt gm gc gp gq ht1 hs1 hC1 hNH hkeep hst hat
      obtain ⟨c0, c1, c2, c3, c4, c5, c6, c7⟩ := cmd_cells gcr.out
      rw [hkH.out] at c0
      have k0 := gmr.out.cell 0
      have k1 := gmr.out.cell 1
      simp at k0 k1
      obtain ⟨i0, hi0, hz0, hz1, hz2⟩ := info_parts infoStr
      obtain ⟨A', n', V, he, _, _, _, hc5, hc6⟩ := htw.out
      injection he with he1 he2 he3
      subst he1
      clear he2 he3
      have hmm := Lib.hid (names_more s.ths)
      have hrd : Hid (0 < T → ∃ g off, A = some ⟨g, off, none⟩ ∧ g < w.heap.size ∧ ∀ i, i < T → w.cell? ⟨g, off + i * 2, none⟩ = some (encStr (nth s.ths i).1) ∧ w.cell? ⟨g, off + i * 2 + 1, none⟩ = some (V i)) := by
        rw [hTl.out]
        exact hc5
      have hc6H : Hid (∀ i, i < T → ∃ Y yn yc, V i = .slice Y yn yc) := fun i hi => by
        obtain ⟨hb, _⟩ := hc6 i (by have := hTl.out; omega)
        obtain ⟨Y, yc, h⟩ := hb.form
        exact ⟨_, _, _, h⟩
      clear hc5 hc6
      obtain ⟨P, hPe⟩ : ∃ P, P = wr.heap.size := ⟨_, rfl⟩
      obtain ⟨W6, hW6⟩ : ∃ W6, W6 = wr.alloc (.cells #[.int .i64 0, .bool false, .int .i64 0, .slice none 0 0, .slice none 0 0] 37) := ⟨_, rfl⟩
      have hn6 : New wr W6 := by rw [hW6]; exact (New.refl wr).alloc _
      have htb6 : Hid (Blk W6 P 37 #[.int .i64 0, .bool false, .int .i64 0, .slice none 0 0, .slice none 0 0]) := by show Blk _ _ _ _; rw [hW6, hPe]; exact Blk.fresh wr _ _
      have hg6 := Lib.hid (gmr.out.new hn6)
      have k06 := hg6.out.cell 0
      have k16 := hg6.out.cell 1
      simp at k06 k16
      have hn6 := Lib.hid hn6
      go_upto_region 28 with fail
      rw [← hW6, ← hPe]
      have hPz := Lib.hid hPe
      clear hW6 hPe k0 k1 c0 c1 c2 c3 c4 c5 c6 c7
      go_wp2_with fail
      obtain ⟨wo, hwo⟩ : ∃ wo, wo = wr := ⟨_, rfl⟩
      subst hwo
      go_loopw [108] (fun q wx => ∃ (i : Nat) (nv : Value), q = .int .i64 (i : Nat) ∧ i ≤ T ∧ Hid (Blk wx P 37 #[.int .i64 0, .bool false, .int .i64 0, .slice none 0 0, nv]) ∧ Hid (wx.ownsRow (P + 1) 9 1 nv i (((s.ths.take i).map (·.1)).map encStr)) ∧ Hid (New wo wx)) (fun q _ => T - (intOf q).toNat)
      case atStart => exact ⟨0, _, rfl, Nat.zero_le _, htb6, Lib.hid (World.ownsRow_nil _ _ _ _), hn6⟩
      case round =>
        obtain ⟨i, nv, rfl, hi, htb, hO, hN⟩ := hrel
        by_cases hlt : i < T
        · obtain ⟨g, off, rfl, hg, hc⟩ := hrd.out (by omega)
          have e0 := ((hNw.out.next hN.out).cell (p := ⟨g, off + i * 2, none⟩) hg).trans (hc i hlt).1
          have e1 := ((hNw.out.next hN.out).cell (p := ⟨g, off + i * 2 + 1, none⟩) hg).trans (hc i hlt).2
          have hil : (i : Int) < (T : Int) := by omega
          have hnx := Lib.hid (hmm.out i (by have := hTl.out; omega))
          obtain ⟨y, hy⟩ : ∃ y, Hid (y = (nth s.ths i).1) := ⟨_, rfl⟩
          rw [← hy.out] at e0 hnx
          obtain ⟨Y, yn, yc, hV⟩ := hc6H.out i hlt
          rw [hV] at e1
          obtain ⟨W2, hW2⟩ : ∃ W2, W2 = wr.alloc (.cells #[encStr y, .slice Y yn yc] 64) := ⟨_, rfl⟩
          have hn2 : New wr W2 := by rw [hW2]; exact (New.refl wr).alloc _
          have hyb : Blk W2 wr.heap.size 64 #[encStr y, .slice Y yn yc] := by rw [hW2]; exact Blk.fresh _ _ _
          have b0 := hyb.cell 0
          have ht2 := Lib.hid (htb.out.new hn2)
          have t4 := ht2.out.cell 4
          simp at b0 t4
          have hown : W2.ownsRow (P + 1) 9 1 nv i (((s.ths.take i).map (·.1)).map encStr) := own_new hO.out hn2
          have hN2 := Lib.hid (hN.out.next hn2)
          have hPlt : P < W2.heap.size := ht2.out.lt
          have hiz : i < 1000 := by omega
          clear hc hV
          go_upto_region 31 with fail
          rw [← hW2]
          clear hW2
          go_wp2_with (at_builtin; refine wpList_append_lies _ rfl _ _ 35 rfl (P + 1) 9 i0 _ 1 16 Try.underlying35 hi0 hz0 hz1 hz2 rfl (by decide) nv i _ rfl (hown.alloc _) ⟨W2.heap.size, 0, none⟩ 1 1 [encStr y] rfl rfl (World.news_of_block (cs := #[encStr y]) (t := 9) (fr := (0, 0)) (heap_alloc_new W2 _)) (by simp [encStr, Value.oneCell']) (by omega) (by unfold maxLen; omega) (by omega) (by simp; omega) _ rfl ?_; intro g7 c7 w7 hown7 hgr7 hat7 hlt7; have hb7 := (ht2.out.alloc (.cells #[encStr y] 9)).grown hgr7 (own_ne_blk (hown.alloc (.cells #[encStr y] 9)) (ht2.out.alloc (.cells #[encStr y] 9)) (by decide)); have f7 := hb7.cell 4; have f8 := hb7.frozen 4; simp at f7)
          obtain ⟨W8, hW8⟩ : ∃ W8, W8 = w7.setCell ⟨P, 4, none⟩ (.slice (some ⟨g7, 0, none⟩) (i + 1) c7) := ⟨_, rfl⟩
          have hg7 := (hown7.lt g7 rfl).1
          have htb8 : Hid (Blk W8 P 37 #[.int .i64 0, .bool false, .int .i64 0, .slice none 0 0, .slice (some ⟨g7, 0, none⟩) (i + 1) c7]) := by
            show Blk _ _ _ _
            rw [hW8]
            exact hb7.put 4 _
          have hO8 : Hid (W8.ownsRow (P + 1) 9 1 (.slice (some ⟨g7, 0, none⟩) (i + 1) c7) (i + 1) (((s.ths.take (i + 1)).map (·.1)).map encStr)) := by
            show World.ownsRow _ _ _ _ _ _ _
            rw [hW8, hnx.out]
            refine Alt.own (K := fun q => q = P) (Alt.set (K := fun q => q = P) (Alt.refl w7) (.inl rfl) _) hown7 fun g hg => ?_
            have := (hown7.lt g hg).1
            omega
          have hN8 : Hid (New wo W8) := by
            show New _ _
            rw [hW8]
            have hpz := hPz.out
            exact ((hN2.out.alloc _).grown hgr7 fun r e => by have := (hown.lt r e).1; omega).set (by dsimp only; omega) _
          rw [← hW8]
          clear hW8 hown7 hgr7 hat7 hlt7 hb7 f7 f8 hg7 hown
          go_wp2
          go_roundw
          case rel => exact ⟨i + 1, _, by go_num, by omega, htb8, hO8, hN8⟩
          case measure => simp [intOf]; omega
        · have hin : T = i := by omega
          have hil : ¬ (i : Int) < (T : Int) := by omega
          have hNs : Hid (Ns wr nv (s.ths.map (·.1))) := by
            have h := own_base0 hO.out
            rw [show s.ths.take i = s.ths from List.take_of_length_le (by have := hTl.out; omega)] at h
            show World.ownsRow _ _ _ _ _ _ _
            rw [List.length_map, ← hTl.out, hin]
            exact h
          obtain ⟨NA, nc, hnv, _⟩ := own_open hO.out
          subst hnv
          have hPq : w.heap.size + 3 < P := by
            have := gqr.out.lt
            have := hPz.out
            omega
          replace gmr := Lib.hid (gmr.out.new hN.out)
          replace gpr := Lib.hid (gpr.out.new hN.out)
          replace gqr := Lib.hid (gqr.out.new hN.out)
          replace htr := Lib.hid (TL.new htr.out hN.out)
          replace hsr := Lib.hid (SL.new hsr.out hN.out)
          replace hNw := Lib.hid (hNw.out.next hN.out)
          obtain ⟨⟨t0, t1, t2, t3, t4⟩, _, _⟩ := told_cells htb.out
          have k0 := gmr.out.cell 0
          have k1 := gmr.out.cell 1
          simp at k0 k1
          clear hlt k06 k16 hmm hO hin
          obtain ⟨⟨r0, r1, r2, r3, r4⟩, ⟨y0, y1, y2, y3, y4⟩, ⟨r5, r6, y5, y6⟩, hx⟩ := out_cells gpr.out gqr.out (by omega)
          have hS1 : wr.drew.cell? ⟨P, 0, none⟩ = some (.int .i64 0) ∧ wr.drew.cell? ⟨P, 1, none⟩ = some (.bool false) ∧ wr.drew.cell? ⟨P, 2, none⟩ = some (.int .i64 0) ∧ wr.drew.cell? ⟨P, 3, none⟩ = some (.slice none 0 0) ∧ wr.drew.cell? ⟨P, 4, none⟩ = some (.slice NA i nc) ∧ wr.drew.cell? ⟨w.heap.size, 0, none⟩ = some (.slice A T n) ∧ wr.drew.cell? ⟨w.heap.size, 1, none⟩ = some (.slice SA N sc) := ⟨t0, t1, t2, t3, t4, k0, k1⟩
          have hS6 : (put5 wr (w.heap.size + 2) (.int .i64 0) (.bool false) (.int .i64 0) (.slice none 0 0) (.slice NA i nc)).drew.cell? ⟨P, 0, none⟩ = some (.int .i64 0) ∧ (put5 wr (w.heap.size + 2) (.int .i64 0) (.bool false) (.int .i64 0) (.slice none 0 0) (.slice NA i nc)).drew.cell? ⟨P, 1, none⟩ = some (.bool false) ∧ (put5 wr (w.heap.size + 2) (.int .i64 0) (.bool false) (.int .i64 0) (.slice none 0 0) (.slice NA i nc)).drew.cell? ⟨P, 2, none⟩ = some (.int .i64 0) ∧ (put5 wr (w.heap.size + 2) (.int .i64 0) (.bool false) (.int .i64 0) (.slice none 0 0) (.slice NA i nc)).drew.cell? ⟨P, 3, none⟩ = some (.slice none 0 0) ∧ (put5 wr (w.heap.size + 2) (.int .i64 0) (.bool false) (.int .i64 0) (.slice none 0 0) (.slice NA i nc)).drew.cell? ⟨P, 4, none⟩ = some (.slice NA i nc) ∧ (put5 wr (w.heap.size + 2) (.int .i64 0) (.bool false) (.int .i64 0) (.slice none 0 0) (.slice NA i nc)).drew.cell? ⟨w.heap.size, 0, none⟩ = some (.slice A T n) ∧ (put5 wr (w.heap.size + 2) (.int .i64 0) (.bool false) (.int .i64 0) (.slice none 0 0) (.slice NA i nc)).drew.cell? ⟨w.heap.size, 1, none⟩ = some (.slice SA N sc) := ⟨((put5_alt wr _ _ _ _ _ _).drew).cell t0 (by dsimp only; omega), ((put5_alt wr _ _ _ _ _ _).drew).cell t1 (by dsimp only; omega), ((put5_alt wr _ _ _ _ _ _).drew).cell t2 (by dsimp only; omega), ((put5_alt wr _ _ _ _ _ _).drew).cell t3 (by dsimp only; omega), ((put5_alt wr _ _ _ _ _ _).drew).cell t4 (by dsimp only; omega), ((put5_alt wr _ _ _ _ _ _).drew).cell k0 (by dsimp only; omega), ((put5_alt wr _ _ _ _ _ _).drew).cell k1 (by dsimp only; omega)⟩
          have hS7 : (putM wr (w.heap.size + 2) (w.heap.size + 3) (.int .i64 0) (.bool false) (.int .i64 0) (.slice none 0 0) (.slice NA i nc) (.slice A T n) (.slice SA N sc)).drew.cell? ⟨P, 0, none⟩ = some (.int .i64 0) ∧ (putM wr (w.heap.size + 2) (w.heap.size + 3) (.int .i64 0) (.bool false) (.int .i64 0) (.slice none 0 0) (.slice NA i nc) (.slice A T n) (.slice SA N sc)).drew.cell? ⟨P, 1, none⟩ = some (.bool false) ∧ (putM wr (w.heap.size + 2) (w.heap.size + 3) (.int .i64 0) (.bool false) (.int .i64 0) (.slice none 0 0) (.slice NA i nc) (.slice A T n) (.slice SA N sc)).drew.cell? ⟨P, 2, none⟩ = some (.int .i64 0) ∧ (putM wr (w.heap.size + 2) (w.heap.size + 3) (.int .i64 0) (.bool false) (.int .i64 0) (.slice none 0 0) (.slice NA i nc) (.slice A T n) (.slice SA N sc)).drew.cell? ⟨P, 3, none⟩ = some (.slice none 0 0) ∧ (putM wr (w.heap.size + 2) (w.heap.size + 3) (.int .i64 0) (.bool false) (.int .i64 0) (.slice none 0 0) (.slice NA i nc) (.slice A T n) (.slice SA N sc)).drew.cell? ⟨P, 4, none⟩ = some (.slice NA i nc) ∧ (putM wr (w.heap.size + 2) (w.heap.size + 3) (.int .i64 0) (.bool false) (.int .i64 0) (.slice none 0 0) (.slice NA i nc) (.slice A T n) (.slice SA N sc)).drew.cell? ⟨w.heap.size, 0, none⟩ = some (.slice A T n) ∧ (putM wr (w.heap.size + 2) (w.heap.size + 3) (.int .i64 0) (.bool false) (.int .i64 0) (.slice none 0 0) (.slice NA i nc) (.slice A T n) (.slice SA N sc)).drew.cell? ⟨w.heap.size, 1, none⟩ = some (.slice SA N sc) := ⟨((putM_alt wr _ _ _ _ _ _ _ _ _).drew).cell t0 (by dsimp only; omega), ((putM_alt wr _ _ _ _ _ _ _ _ _).drew).cell t1 (by dsimp only; omega), ((putM_alt wr _ _ _ _ _ _ _ _ _).drew).cell t2 (by dsimp only; omega), ((putM_alt wr _ _ _ _ _ _ _ _ _).drew).cell t3 (by dsimp only; omega), ((putM_alt wr _ _ _ _ _ _ _ _ _).drew).cell t4 (by dsimp only; omega), ((putM_alt wr _ _ _ _ _ _ _ _ _).drew).cell k0 (by dsimp only; omega), ((putM_alt wr _ _ _ _ _ _ _ _ _).drew).cell k1 (by dsimp only; omega)⟩
          have hf := Lib.hid (md_fin (t := ⟨0, 0, By.none, s.ths.map (·.1)⟩) (s := s) gpr.out gqr.out (by omega) (by omega) hNw.out ⟨_, _, rfl, Bs.nil _, hNs.out⟩ htr.out hsr.out).drew
          go_wp2
          go_region_held3 (fun w' => w'.cell? ⟨P, 0, none⟩ = some (.int .i64 0) ∧ w'.cell? ⟨P, 1, none⟩ = some (.bool false) ∧ w'.cell? ⟨P, 2, none⟩ = some (.int .i64 0) ∧ w'.cell? ⟨P, 3, none⟩ = some (.slice none 0 0) ∧ w'.cell? ⟨P, 4, none⟩ = some (.slice NA i nc) ∧ w'.cell? ⟨w.heap.size, 0, none⟩ = some (.slice A T n) ∧ w'.cell? ⟨w.heap.size, 1, none⟩ = some (.slice SA N sc))
            (first
              | with_reducible exact hS1
              | with_reducible exact hS6
              | with_reducible exact hS7
              | with_reducible assumption)
            (first | fail)
          clear hS1 hS6 hS7
          go_wp2
          exact bodyPost_ret (by simp [results, Try.results9, go_sem, hx.out]) rfl hf.out
set_option maxHeartbeats 2000000 in
theorem snaps_ok (tv sv : Value) (s : PS) (C : Cm) (drive keep : Int) (R : Option Addr) (dc : Nat) (w : World) (ht : TL w tv s.ths) (hs : SL w sv s.shs) (hP : OkP s) (hC : CmOk w C R dc) (hk : C.kind = 11) :
    Calls Try.prog 9 #[.agg #[tv, sv], .agg (cmL C.kind C.name C.other C.off C.count drive keep R C.dn dc)] w (MdP (doT s C).1 (doT s C).2 w) := by
  have e1 : doT s C = (⟨0, 0, By.none, s.shs.map (·.1)⟩, s) := by unfold doT; rw [if_neg (by omega), if_neg (by omega), if_pos hk]
  rw [e1]
  clear e1
  obtain ⟨W1, hW1, hN1, gm, gc, gp, gq⟩ := does_mem w #[tv, sv] (cmL C.kind C.name C.other C.off C.count drive keep R C.dn dc)
  have hNH := Lib.hid hN1
  have ht1 := Lib.hid (TL.new ht hN1)
  have hs1 := Lib.hid (SL.new hs hN1)
  have hC1 := Lib.hid (hC.new hN1)
  have hPH := Lib.hid hP
  have hat := Lib.hid (thingAt_any tv s.ths C.name W1 (TL.new ht hN1) (by have := hP.th.len; omega))
  obtain ⟨o, hst, hfo⟩ := place_ex hP.asc C.other
  have hst := Lib.hid hst
  have hfo := Lib.hid hfo
  have hlen3 := hP.len
  have hlen4 := hP.th.len
  have hsw := Lib.hid hs
  obtain ⟨SA, sc, U, rfl, _, _, _, hsc, _⟩ := hs
  have hsc := Lib.hid hsc
  obtain ⟨A, n, rfl⟩ := ht.form
  obtain ⟨N, hNl⟩ : ∃ N, Hid (N = s.shs.length) := ⟨_, rfl⟩
  obtain ⟨T, hTl⟩ : ∃ T, Hid (T = s.ths.length) := ⟨_, rfl⟩
  have hcell : Hid (0 < N → ∃ g off, SA = some ⟨g, off, none⟩ ∧ g < w.heap.size ∧ ∀ i, i < N → w.cell? ⟨g, off + i * 2, none⟩ = some (encStr (nth s.shs i).1) ∧ w.cell? ⟨g, off + i * 2 + 1, none⟩ = some (U i)) := by
    rw [hNl.out]
    exact hsc.out
  rw [← hNl.out] at gm hs1 hlen3 hW1 hsw ⊢
  rw [← hTl.out] at gm ht1 hat hlen4 hW1 ⊢
  have hst : Hid (∀ k, k < N → shV o (k + 1) = if (nth s.shs k).1 = C.other then (k : Int) else shV o k) := by
    rw [hNl.out]
    exact hst.out
  obtain ⟨q0, hq0⟩ : ∃ q0, Hid (q0 = shV o N) := ⟨_, rfl⟩
  have hfo : Hid (posI s.shs C.other q0) := by
    show posI _ _ _
    rw [hq0.out, hNl.out]
    exact hfo.out
  obtain ⟨c0, c1, c2, c3, c4, c5, c6, c7⟩ := cmd_cells gc.out
  rw [hk] at c0
  have k0 := gm.out.cell 0
  have k1 := gm.out.cell 1
  simp at k0 k1
  have hkeep : Hid (∀ w', New W1 w' → w'.cell? ⟨w.heap.size, 1, none⟩ = some (.slice SA N sc) ∧ w'.cell? ⟨w.heap.size + 1, 2, none⟩ = some (encStr C.other)) := fun w' h => ⟨(h.cell (lt_of_cell k1)).trans k1, (h.cell (lt_of_cell c2)).trans c2⟩
  have hkH := Lib.hid hk
  have htw : Hid (TL w (.slice A T n) s.ths) := by show TL _ _ _; rw [hTl.out]; exact ht
  clear hN1 ht hP hC hk c3 c4 c5 c6 c7 hsc
  go_enter Try.func9, Try.ntmps9
  go_upto_region 1 with fail
  rw [← hW1]
  clear hW1
  rw [show w.heap.size + 1 + 1 + 1 = w.heap.size + 3 from rfl, show w.heap.size + 1 + 1 = w.heap.size + 2 from rfl]
  go_wp2_with (go_at_call 18; refine hat.out.mono ?_; rintro e w2 ⟨p, rfl, hpos, rfl⟩; have hpos := Lib.hid hpos)
  go_loopw [32, 8] (fun q sh wr => ∃ i : Nat, q = .int .i64 (i : Nat) ∧ i ≤ N ∧ sh = .int .i64 (shV o i) ∧ Hid (New W1 wr)) (fun q _ _ => N - (intOf q).toNat)
  case atStart => exact ⟨0, rfl, Nat.zero_le _, by rw [shV_0], Lib.hid (New.refl _)⟩
  case round =>
    obtain ⟨i, rfl, hi, rfl, hNr⟩ := hrel
    obtain ⟨m1, d2⟩ := hkeep.out wr hNr.out
    by_cases hlt : i < N
    · obtain ⟨g, off, rfl, hg, hc⟩ := hcell.out (by omega)
      have e0 := ((hNH.out.next hNr.out).cell (p := ⟨g, off + i * 2, none⟩) hg).trans (hc i hlt).1
      have hil : (i : Int) < (N : Int) := by omega
      have hsi := hst.out i hlt
      obtain ⟨y, hy⟩ : ∃ y, Hid (y = (nth s.shs i).1) := ⟨_, rfl⟩
      rw [← hy.out] at e0 hsi
      obtain ⟨sv1, hsv1⟩ : ∃ v, Hid (v = shV o (i + 1)) := ⟨_, rfl⟩
      rw [← hsv1.out] at hsi
      obtain ⟨sv0, hsv0⟩ : ∃ v, Hid (v = shV o i) := ⟨_, rfl⟩
      rw [← hsv0.out] at hsi ⊢
      clear hc k0 k1 c0 c1 c2
      by_cases e : y = C.other
      · have hd : (y == C.other) = true := by simp [e]
        have hs3 : Hid (sv1 = (i : Int)) := by show _ = _; rw [hsi, if_pos e]
        clear e hsi
        go_wp2
        go_quiet (fail)
        go_wp2
        go_roundw
        case rel => exact ⟨i + 1, by go_num, by omega, by rw [← hsv1.out, hs3.out], Lib.hid (hNr.out.drewN _)⟩
        case measure => simp [intOf]; omega
      · have hd : (y == C.other) = false := by simp [e]
        have hs3 : Hid (sv1 = sv0) := by show _ = _; rw [hsi, if_neg e]
        clear e hsi
        go_wp2
        go_quiet (fail)
        go_wp2
        go_roundw
        case rel => exact ⟨i + 1, by go_num, by omega, by rw [← hsv1.out, hs3.out], Lib.hid (hNr.out.drewN _)⟩
        case measure => simp [intOf]; omega
    · have hin : N = i := by omega
      subst hin
      rw [← hq0.out]
      have hil : ¬ (N : Int) < (N : Int) := by omega
      have gmr := Lib.hid (gm.out.new hNr.out)
      have gcr := Lib.hid (gc.out.new hNr.out)
      have gpr := Lib.hid (gp.out.new hNr.out)
      have gqr := Lib.hid (gq.out.new hNr.out)
      have htr := Lib.hid (TL.new ht1.out hNr.out)
      have hsr := Lib.hid (SL.new hs1.out hNr.out)
      have hCr := Lib.hid (hC1.out.new hNr.out)
      have hNw := Lib.hid (hNH.out.next hNr.out)
      clear c0 c1 c2 k0 k1 m1 d2 hlt gm gc gp gq ht1 hs1 hC1 hNH hkeep hst hat
      obtain ⟨c0, c1, c2, c3, c4, c5, c6, c7⟩ := cmd_cells gcr.out
      rw [hkH.out] at c0
      have k0 := gmr.out.cell 0
      have k1 := gmr.out.cell 1
      simp at k0 k1
      obtain ⟨i0, hi0, hz0, hz1, hz2⟩ := info_parts infoStr
      obtain ⟨A', n', V, he, _, _, _, hc5, hc6⟩ := hsw.out
      injection he with he1 he2 he3
      subst he1
      clear he2 he3
      have hmm := Lib.hid (names_more s.shs)
      have hrd : Hid (0 < N → ∃ g off, SA = some ⟨g, off, none⟩ ∧ g < w.heap.size ∧ ∀ i, i < N → w.cell? ⟨g, off + i * 2, none⟩ = some (encStr (nth s.shs i).1) ∧ w.cell? ⟨g, off + i * 2 + 1, none⟩ = some (V i)) := by
        rw [hNl.out]
        exact hc5
      have hc6H : Hid (∀ i, i < N → ∃ Y yn yc, V i = .slice Y yn yc) := fun i hi => by
        obtain ⟨hb, _⟩ := hc6 i (by have := hNl.out; omega)
        obtain ⟨Y, yc, h⟩ := hb.form
        exact ⟨_, _, _, h⟩
      clear hc5 hc6
      obtain ⟨P, hPe⟩ : ∃ P, P = wr.heap.size := ⟨_, rfl⟩
      obtain ⟨W6, hW6⟩ : ∃ W6, W6 = wr.alloc (.cells #[.int .i64 0, .bool false, .int .i64 0, .slice none 0 0, .slice none 0 0] 37) := ⟨_, rfl⟩
      have hn6 : New wr W6 := by rw [hW6]; exact (New.refl wr).alloc _
      have htb6 : Hid (Blk W6 P 37 #[.int .i64 0, .bool false, .int .i64 0, .slice none 0 0, .slice none 0 0]) := by show Blk _ _ _ _; rw [hW6, hPe]; exact Blk.fresh wr _ _
      have hg6 := Lib.hid (gmr.out.new hn6)
      have k06 := hg6.out.cell 0
      have k16 := hg6.out.cell 1
      simp at k06 k16
      have hn6 := Lib.hid hn6
      go_upto_region 36 with fail
      rw [← hW6, ← hPe]
      have hPz := Lib.hid hPe
      clear hW6 hPe k0 k1 c0 c1 c2 c3 c4 c5 c6 c7
      go_wp2_with fail
      obtain ⟨wo, hwo⟩ : ∃ wo, wo = wr := ⟨_, rfl⟩
      subst hwo
      go_loopw [127] (fun q wx => ∃ (i : Nat) (nv : Value), q = .int .i64 (i : Nat) ∧ i ≤ N ∧ Hid (Blk wx P 37 #[.int .i64 0, .bool false, .int .i64 0, .slice none 0 0, nv]) ∧ Hid (wx.ownsRow (P + 1) 9 1 nv i (((s.shs.take i).map (·.1)).map encStr)) ∧ Hid (New wo wx)) (fun q _ => N - (intOf q).toNat)
      case atStart => exact ⟨0, _, rfl, Nat.zero_le _, htb6, Lib.hid (World.ownsRow_nil _ _ _ _), hn6⟩
      case round =>
        obtain ⟨i, nv, rfl, hi, htb, hO, hN⟩ := hrel
        by_cases hlt : i < N
        · obtain ⟨g, off, rfl, hg, hc⟩ := hrd.out (by omega)
          have e0 := ((hNw.out.next hN.out).cell (p := ⟨g, off + i * 2, none⟩) hg).trans (hc i hlt).1
          have e1 := ((hNw.out.next hN.out).cell (p := ⟨g, off + i * 2 + 1, none⟩) hg).trans (hc i hlt).2
          have hil : (i : Int) < (N : Int) := by omega
          have hnx := Lib.hid (hmm.out i (by have := hNl.out; omega))
          obtain ⟨y, hy⟩ : ∃ y, Hid (y = (nth s.shs i).1) := ⟨_, rfl⟩
          rw [← hy.out] at e0 hnx
          obtain ⟨Y, yn, yc, hV⟩ := hc6H.out i hlt
          rw [hV] at e1
          obtain ⟨W2, hW2⟩ : ∃ W2, W2 = wr.alloc (.cells #[encStr y, .slice Y yn yc] 60) := ⟨_, rfl⟩
          have hn2 : New wr W2 := by rw [hW2]; exact (New.refl wr).alloc _
          have hyb : Blk W2 wr.heap.size 60 #[encStr y, .slice Y yn yc] := by rw [hW2]; exact Blk.fresh _ _ _
          have b0 := hyb.cell 0
          have ht2 := Lib.hid (htb.out.new hn2)
          have t4 := ht2.out.cell 4
          simp at b0 t4
          have hown : W2.ownsRow (P + 1) 9 1 nv i (((s.shs.take i).map (·.1)).map encStr) := own_new hO.out hn2
          have hN2 := Lib.hid (hN.out.next hn2)
          have hPlt : P < W2.heap.size := ht2.out.lt
          have hiz : i < 1000 := by omega
          clear hc hV
          go_upto_region 39 with fail
          rw [← hW2]
          clear hW2
          go_wp2_with (at_builtin; refine wpList_append_lies _ rfl _ _ 35 rfl (P + 1) 9 i0 _ 1 16 Try.underlying35 hi0 hz0 hz1 hz2 rfl (by decide) nv i _ rfl (hown.alloc _) ⟨W2.heap.size, 0, none⟩ 1 1 [encStr y] rfl rfl (World.news_of_block (cs := #[encStr y]) (t := 9) (fr := (0, 0)) (heap_alloc_new W2 _)) (by simp [encStr, Value.oneCell']) (by omega) (by unfold maxLen; omega) (by omega) (by simp; omega) _ rfl ?_; intro g7 c7 w7 hown7 hgr7 hat7 hlt7; have hb7 := (ht2.out.alloc (.cells #[encStr y] 9)).grown hgr7 (own_ne_blk (hown.alloc (.cells #[encStr y] 9)) (ht2.out.alloc (.cells #[encStr y] 9)) (by decide)); have f7 := hb7.cell 4; have f8 := hb7.frozen 4; simp at f7)
          obtain ⟨W8, hW8⟩ : ∃ W8, W8 = w7.setCell ⟨P, 4, none⟩ (.slice (some ⟨g7, 0, none⟩) (i + 1) c7) := ⟨_, rfl⟩
          have hg7 := (hown7.lt g7 rfl).1
          have htb8 : Hid (Blk W8 P 37 #[.int .i64 0, .bool false, .int .i64 0, .slice none 0 0, .slice (some ⟨g7, 0, none⟩) (i + 1) c7]) := by
            show Blk _ _ _ _
            rw [hW8]
            exact hb7.put 4 _
          have hO8 : Hid (W8.ownsRow (P + 1) 9 1 (.slice (some ⟨g7, 0, none⟩) (i + 1) c7) (i + 1) (((s.shs.take (i + 1)).map (·.1)).map encStr)) := by
            show World.ownsRow _ _ _ _ _ _ _
            rw [hW8, hnx.out]
            refine Alt.own (K := fun q => q = P) (Alt.set (K := fun q => q = P) (Alt.refl w7) (.inl rfl) _) hown7 fun g hg => ?_
            have := (hown7.lt g hg).1
            omega
          have hN8 : Hid (New wo W8) := by
            show New _ _
            rw [hW8]
            have hpz := hPz.out
            exact ((hN2.out.alloc _).grown hgr7 fun r e => by have := (hown.lt r e).1; omega).set (by dsimp only; omega) _
          rw [← hW8]
          clear hW8 hown7 hgr7 hat7 hlt7 hb7 f7 f8 hg7 hown
          go_wp2
          go_roundw
          case rel => exact ⟨i + 1, _, by go_num, by omega, htb8, hO8, hN8⟩
          case measure => simp [intOf]; omega
        · have hin : N = i := by omega
          have hil : ¬ (i : Int) < (N : Int) := by omega
          have hNs : Hid (Ns wr nv (s.shs.map (·.1))) := by
            have h := own_base0 hO.out
            rw [show s.shs.take i = s.shs from List.take_of_length_le (by have := hNl.out; omega)] at h
            show World.ownsRow _ _ _ _ _ _ _
            rw [List.length_map, ← hNl.out, hin]
            exact h
          obtain ⟨NA, nc, hnv, _⟩ := own_open hO.out
          subst hnv
          have hPq : w.heap.size + 3 < P := by
            have := gqr.out.lt
            have := hPz.out
            omega
          replace gmr := Lib.hid (gmr.out.new hN.out)
          replace gpr := Lib.hid (gpr.out.new hN.out)
          replace gqr := Lib.hid (gqr.out.new hN.out)
          replace htr := Lib.hid (TL.new htr.out hN.out)
          replace hsr := Lib.hid (SL.new hsr.out hN.out)
          replace hNw := Lib.hid (hNw.out.next hN.out)
          obtain ⟨⟨t0, t1, t2, t3, t4⟩, _, _⟩ := told_cells htb.out
          have k0 := gmr.out.cell 0
          have k1 := gmr.out.cell 1
          simp at k0 k1
          clear hlt k06 k16 hmm hO hin
          obtain ⟨⟨r0, r1, r2, r3, r4⟩, ⟨y0, y1, y2, y3, y4⟩, ⟨r5, r6, y5, y6⟩, hx⟩ := out_cells gpr.out gqr.out (by omega)
          have hS1 : wr.drew.cell? ⟨P, 0, none⟩ = some (.int .i64 0) ∧ wr.drew.cell? ⟨P, 1, none⟩ = some (.bool false) ∧ wr.drew.cell? ⟨P, 2, none⟩ = some (.int .i64 0) ∧ wr.drew.cell? ⟨P, 3, none⟩ = some (.slice none 0 0) ∧ wr.drew.cell? ⟨P, 4, none⟩ = some (.slice NA i nc) ∧ wr.drew.cell? ⟨w.heap.size, 0, none⟩ = some (.slice A T n) ∧ wr.drew.cell? ⟨w.heap.size, 1, none⟩ = some (.slice SA N sc) := ⟨t0, t1, t2, t3, t4, k0, k1⟩
          have hS6 : (put5 wr (w.heap.size + 2) (.int .i64 0) (.bool false) (.int .i64 0) (.slice none 0 0) (.slice NA i nc)).drew.cell? ⟨P, 0, none⟩ = some (.int .i64 0) ∧ (put5 wr (w.heap.size + 2) (.int .i64 0) (.bool false) (.int .i64 0) (.slice none 0 0) (.slice NA i nc)).drew.cell? ⟨P, 1, none⟩ = some (.bool false) ∧ (put5 wr (w.heap.size + 2) (.int .i64 0) (.bool false) (.int .i64 0) (.slice none 0 0) (.slice NA i nc)).drew.cell? ⟨P, 2, none⟩ = some (.int .i64 0) ∧ (put5 wr (w.heap.size + 2) (.int .i64 0) (.bool false) (.int .i64 0) (.slice none 0 0) (.slice NA i nc)).drew.cell? ⟨P, 3, none⟩ = some (.slice none 0 0) ∧ (put5 wr (w.heap.size + 2) (.int .i64 0) (.bool false) (.int .i64 0) (.slice none 0 0) (.slice NA i nc)).drew.cell? ⟨P, 4, none⟩ = some (.slice NA i nc) ∧ (put5 wr (w.heap.size + 2) (.int .i64 0) (.bool false) (.int .i64 0) (.slice none 0 0) (.slice NA i nc)).drew.cell? ⟨w.heap.size, 0, none⟩ = some (.slice A T n) ∧ (put5 wr (w.heap.size + 2) (.int .i64 0) (.bool false) (.int .i64 0) (.slice none 0 0) (.slice NA i nc)).drew.cell? ⟨w.heap.size, 1, none⟩ = some (.slice SA N sc) := ⟨((put5_alt wr _ _ _ _ _ _).drew).cell t0 (by dsimp only; omega), ((put5_alt wr _ _ _ _ _ _).drew).cell t1 (by dsimp only; omega), ((put5_alt wr _ _ _ _ _ _).drew).cell t2 (by dsimp only; omega), ((put5_alt wr _ _ _ _ _ _).drew).cell t3 (by dsimp only; omega), ((put5_alt wr _ _ _ _ _ _).drew).cell t4 (by dsimp only; omega), ((put5_alt wr _ _ _ _ _ _).drew).cell k0 (by dsimp only; omega), ((put5_alt wr _ _ _ _ _ _).drew).cell k1 (by dsimp only; omega)⟩
          have hS7 : (putM wr (w.heap.size + 2) (w.heap.size + 3) (.int .i64 0) (.bool false) (.int .i64 0) (.slice none 0 0) (.slice NA i nc) (.slice A T n) (.slice SA N sc)).drew.cell? ⟨P, 0, none⟩ = some (.int .i64 0) ∧ (putM wr (w.heap.size + 2) (w.heap.size + 3) (.int .i64 0) (.bool false) (.int .i64 0) (.slice none 0 0) (.slice NA i nc) (.slice A T n) (.slice SA N sc)).drew.cell? ⟨P, 1, none⟩ = some (.bool false) ∧ (putM wr (w.heap.size + 2) (w.heap.size + 3) (.int .i64 0) (.bool false) (.int .i64 0) (.slice none 0 0) (.slice NA i nc) (.slice A T n) (.slice SA N sc)).drew.cell? ⟨P, 2, none⟩ = some (.int .i64 0) ∧ (putM wr (w.heap.size + 2) (w.heap.size + 3) (.int .i64 0) (.bool false) (.int .i64 0) (.slice none 0 0) (.slice NA i nc) (.slice A T n) (.slice SA N sc)).drew.cell? ⟨P, 3, none⟩ = some (.slice none 0 0) ∧ (putM wr (w.heap.size + 2) (w.heap.size + 3) (.int .i64 0) (.bool false) (.int .i64 0) (.slice none 0 0) (.slice NA i nc) (.slice A T n) (.slice SA N sc)).drew.cell? ⟨P, 4, none⟩ = some (.slice NA i nc) ∧ (putM wr (w.heap.size + 2) (w.heap.size + 3) (.int .i64 0) (.bool false) (.int .i64 0) (.slice none 0 0) (.slice NA i nc) (.slice A T n) (.slice SA N sc)).drew.cell? ⟨w.heap.size, 0, none⟩ = some (.slice A T n) ∧ (putM wr (w.heap.size + 2) (w.heap.size + 3) (.int .i64 0) (.bool false) (.int .i64 0) (.slice none 0 0) (.slice NA i nc) (.slice A T n) (.slice SA N sc)).drew.cell? ⟨w.heap.size, 1, none⟩ = some (.slice SA N sc) := ⟨((putM_alt wr _ _ _ _ _ _ _ _ _).drew).cell t0 (by dsimp only; omega), ((putM_alt wr _ _ _ _ _ _ _ _ _).drew).cell t1 (by dsimp only; omega), ((putM_alt wr _ _ _ _ _ _ _ _ _).drew).cell t2 (by dsimp only; omega), ((putM_alt wr _ _ _ _ _ _ _ _ _).drew).cell t3 (by dsimp only; omega), ((putM_alt wr _ _ _ _ _ _ _ _ _).drew).cell t4 (by dsimp only; omega), ((putM_alt wr _ _ _ _ _ _ _ _ _).drew).cell k0 (by dsimp only; omega), ((putM_alt wr _ _ _ _ _ _ _ _ _).drew).cell k1 (by dsimp only; omega)⟩
          have hf := Lib.hid (md_fin (t := ⟨0, 0, By.none, s.shs.map (·.1)⟩) (s := s) gpr.out gqr.out (by omega) (by omega) hNw.out ⟨_, _, rfl, Bs.nil _, hNs.out⟩ htr.out hsr.out).drew
          go_wp2
          go_region_held3 (fun w' => w'.cell? ⟨P, 0, none⟩ = some (.int .i64 0) ∧ w'.cell? ⟨P, 1, none⟩ = some (.bool false) ∧ w'.cell? ⟨P, 2, none⟩ = some (.int .i64 0) ∧ w'.cell? ⟨P, 3, none⟩ = some (.slice none 0 0) ∧ w'.cell? ⟨P, 4, none⟩ = some (.slice NA i nc) ∧ w'.cell? ⟨w.heap.size, 0, none⟩ = some (.slice A T n) ∧ w'.cell? ⟨w.heap.size, 1, none⟩ = some (.slice SA N sc))
            (first
              | with_reducible exact hS1
              | with_reducible exact hS6
              | with_reducible exact hS7
              | with_reducible assumption)
            (first | fail)
          clear hS1 hS6 hS7
          go_wp2
          exact bodyPost_ret (by simp [results, Try.results9, go_sem, hx.out]) rfl hf.out
end Go.Proofs.Ytmpaheaedaeakaa.pool
