/-
  Contract of the reference's SnapPlayed.
-/
import Derived.Test.YtiffgeglbafenaaSnapRefKeep
namespace Go.Proofs.Ytiffgeglbafenaa.snap
open Go.ChangeShapes Go.WideShapes Go.ChangeAt Go.RowKit Go.Proofs.Ytiffgeglbafenaa.kit Go.Deep Go.Maps
set_option linter.unusedVariables false
set_option maxRecDepth 100000
theorem nextK_n (s : KS) (k w : Int) : s.n ≤ (nextK s k w).n := by
  unfold nextK
  split
  · exact Nat.le_refl _
  split
  · exact Nat.le_succ _
  split
  · split
    · exact Nat.le_refl _
    · exact Nat.le_refl _
  split
  · exact Nat.le_refl _
  split
  · exact Nat.le_refl _
  · exact Nat.le_refl _
theorem Ref_long (A : Option Addr) (m c : Nat) (C : Nat → Int) (G : Nat → List Nat) (w : World) (hm : 300 < m) (hmx : m ≤ maxLen) : Calls Try.prog 9 #[.slice A m c] w (PlG C G 0 1 w) := by
  unfold maxLen at hmx
  have hm3 : (300 : Int) < (m : Int) := by omega
  go_enter Try.func9, Try.ntmps9
  go_wp2
  exact bodyPost_ret (v := .tuple #[.slice none 0 0, .int .i64 1]) (by simp [results, Try.results9, go_sem]) rfl (PlG.no rfl (New.refl _))
set_option maxHeartbeats 2000000 in
theorem Ref_ok (m c : Nat) (A : Option Addr) (K V : Nat → Int) (w : World) (hm : m ≤ 300) (hJ : RdV w A m K V) (hVI : ∀ i, i < m → I64 (V i)) :
    Calls Try.prog 9 #[.slice A m c] w (PlG (codesK K V) (goneK K V) m 0 w) := by
  obtain ⟨i0, hi0, hz0, hz1, hz2⟩ := info_parts infoGone
  obtain ⟨j0, hj0, hy0, hy1, hy2⟩ := info_parts infoInt
  have hJH := Lib.hid hJ
  have hVH := Lib.hid hVI
  have g3 : ¬ (300 : Int) < (m : Int) := by omega
  obtain ⟨S, hS⟩ : ∃ S, Hid (S = runK K V) := ⟨_, rfl⟩
  obtain ⟨C, hC⟩ : ∃ C, Hid (C = codesK K V) := ⟨_, rfl⟩
  obtain ⟨G, hG⟩ : ∃ G, Hid (G = goneK K V) := ⟨_, rfl⟩
  rw [← hC.out, ← hG.out]
  have hin : Hid (∀ i, Inv (S i) ∧ (S i).now = i ∧ (S i).kept ≤ i) := fun i => by rw [hS.out]; exact run_inv K V i
  have hst : Hid (∀ i, nextK (S i) (K i) (V i) = S (i + 1) ∧ codeK (S i) (K i) (V i) = C i ∧ G i = goneR (S i) (S (i + 1)) ∧ (S i).n ≤ (S (i + 1)).n) := fun i => by
    rw [hS.out, hC.out, hG.out]
    exact ⟨rfl, rfl, (step_law (run_inv K V i).1 (K i) (V i)).2, nextK_n _ _ _⟩
  obtain ⟨W1, hW1⟩ : ∃ W1, W1 = (w.alloc (.map #[] 0)).alloc (.cells #[.slice none 0 0, .map (some w.heap.size), .int .i64 0] 60) := ⟨_, rfl⟩
  have hN1 : Hid (New w W1) := by show New w W1; rw [hW1]; exact ((New.refl w).alloc _).alloc _
  have hK0 : Hid (Nd w.heap.size (w.heap.size + 1) w.heap.size 0 (S 0) (.slice none 0 0) (fun _ => .slice none 0 0) W1) := by
    show Nd _ _ _ _ _ _ _ _
    rw [hS.out, hW1]
    refine ⟨?_, World.ownsRow_nil _ _ _ _, (SM.made w _ _).new ((New.refl _).alloc _), fun i hi => absurd hi (Nat.not_lt_zero i), by omega, Nat.le_refl _⟩
    have := Blk.fresh (w.alloc (.map #[] 0)) 60 #[.slice none 0 0, .map (some w.heap.size), .int .i64 0]
    simpa [runK, KS.start] using this
  have hmm := @run_makeMap Try.prog
  obtain ⟨nb, hnb⟩ : ∃ nb, nb = w.heap.size + 1 := ⟨_, rfl⟩
  have hnbH := Lib.hid hnb
  clear hJ hVI
  go_enter Try.func9, Try.ntmps9
  go_upto_region 4 with fail
  rw [← hW1]
  clear hW1
  rw [← hnb] at hK0 ⊢
  clear hnb
  go_wp2_with fail
  go_loopw [20, 5] (fun x ov wr => ∃ (i : Nat) (lv : Value) (mv dv : Nat → Value), x = .int .i64 i ∧ i ≤ m ∧ Hid (Nd w.heap.size nb w.heap.size i (S i) lv mv wr) ∧ Hid (wr.ownsRow w.heap.size 35 2 ov i (gnL C dv i)) ∧ Hid (∀ j, j < i → OwnI wr w.heap.size (dv j) (G j)) ∧ Hid (New w wr)) (fun x _ _ => m - (intOf x).toNat)
  case atStart => exact ⟨0, _, _, fun _ => .slice none 0 0, rfl, by omega, hK0, World.ownsRow_nil _ _ _ _, fun j hj => absurd hj (Nat.not_lt_zero j), hN1⟩
  case round =>
    obtain ⟨i, lv, mv, dv, rfl, hi, hK, hO, hR, hN⟩ := hrel
    by_cases hlt : i < m
    · obtain ⟨b, off, rfl, hb, hc⟩ := hJH.out.2 (by omega)
      obtain ⟨e0, e1⟩ := hc i hlt
      replace e0 := (hN.out.cell hb).trans e0
      replace e1 := (hN.out.cell hb).trans e1
      have hil : (i : Int) < (m : Int) := by omega
      have hnz := hN.out.size
      have hVi := Lib.hid (hVH.out i hlt)
      obtain ⟨k, hk⟩ : ∃ k, Hid (k = K i) := ⟨_, rfl⟩
      obtain ⟨v, hv⟩ : ∃ v, Hid (v = V i) := ⟨_, rfl⟩
      have hdo := Lib.hid (fun (w' : World) (hk : Nd w.heap.size nb w.heap.size i (S i) lv mv w') (hb : w.heap.size ≤ w'.heap.size) => RefMove_any w.heap.size nb w.heap.size i (S i) (K i) (V i) lv mv w' (hin.out i).1 hk (by have := (hin.out i).2.2; omega) (by omega) hVi.out hb)
      rw [(hst.out i).1, (hst.out i).2.1] at hdo
      rw [← hk.out, ← hv.out] at hdo
      rw [← hk.out] at e0
      rw [← hv.out] at e1
      have hall1 := Lib.hid (fun (w' : World) (hk : Nd w.heap.size nb w.heap.size i (S i) lv mv w') => all_any w.heap.size nb w.heap.size i (S i) lv mv w' (hin.out i).1 hk)
      have hall2 := Lib.hid (fun (w' : World) (lv' : Value) (mv' : Nat → Value) (hk : Nd w.heap.size nb w.heap.size (i + 1) (S (i + 1)) lv' mv' w') => all_any w.heap.size nb w.heap.size (i + 1) (S (i + 1)) lv' mv' w' (hin.out (i + 1)).1 hk)
      clear hc
      obtain ⟨w2, hw2⟩ : ∃ w2, w2 = wr.alloc (.cells #[.int .i64 k, .int .i64 v] 54) := ⟨_, rfl⟩
      have hn2 : New wr w2 := by rw [hw2]; exact (New.refl wr).alloc _
      have hm2 : Hid (Blk w2 wr.heap.size 54 #[.int .i64 k, .int .i64 v]) := by show Blk _ _ _ _; rw [hw2]; exact Blk.fresh _ _ _
      have hK2 := Lib.hid (hK.out.new hn2)
      have hn2H := Lib.hid hn2
      go_upto_region 8 with fail
      rw [← hw2]
      clear hw2 hn2
      go_wp2_with fail
      refine (hall1.out w2 hK2.out).mono ?_
      rintro e w3 ⟨g1, rfl, hrow1, hg1, hn3⟩
      have hrow1 := Lib.hid hrow1
      have hn3H := Lib.hid hn3
      have hm3 := hm2.out.new hn3
      have q0 := hm3.cell 0
      have q1 := hm3.cell 1
      simp at q0 q1
      have hK3 := Lib.hid (hK2.out.new hn3)
      have hs2 := hn2H.out.size
      have hs3 := hn3.size
      have hg1lt := hrow1.out.lt
      clear hn3 hm3
      show _
      dsimp only
      go_wp2_with fail
      refine (hdo.out w3 hK3.out (by omega)).mono ?_
      rintro e w4 ⟨lv', mv', rfl, hK4, hA4⟩
      have hs4 := hA4.size
      have hK4H := Lib.hid hK4
      have hO4 : Hid (w4.ownsRow w.heap.size 35 2 u5 i (gnL C dv i)) := by
        have h3 := own_new (own_new hO.out hn2H.out) hn3H.out
        exact hA4.own h3 fun g hg hk => hK3.out.apart h3 (by decide) (by decide) hk hg
      have hR4 : Hid (∀ j, j < i → OwnI w4 w.heap.size (dv j) (G j)) := fun j hj => by
        have h3 := own_new (own_new (hR.out j hj) hn2H.out) hn3H.out
        exact hA4.own h3 fun g hg hk => hK3.out.apart h3 (by decide) (by decide) hk hg
      have hN4 : Hid (New w w4) := ((hN.out.next hn2H.out).next hn3H.out).trans (hA4.below (by omega) fun g hg => (hK3.out.lt hg).1)
      have hrow4 : Hid (w4.rowIs g1 4 (S i).n (fun t => .bool (needed (S i) t))) := hA4.row_is hrow1.out fun hk => by
        have := (hK2.out.lt hk).2
        omega
      have hg14 : g1 < w4.heap.size := by omega
      clear hK4 hA4 q0 q1
      show _
      dsimp only
      obtain ⟨cd, hcd⟩ : ∃ cd, Hid (cd = C i) := ⟨_, rfl⟩
      rw [← hcd.out]
      obtain ⟨w5, hw5⟩ : ∃ w5, w5 = w4.alloc (.cells #[.int .i64 cd, .slice none 0 0] 35) := ⟨_, rfl⟩
      have hn5 : New w4 w5 := by rw [hw5]; exact (New.refl _).alloc _
      have hn5H := Lib.hid hn5
      have hp5 : Hid (Blk w5 w4.heap.size 35 #[.int .i64 cd, .slice none 0 0]) := by show Blk _ _ _ _; rw [hw5]; exact Blk.fresh _ _ _
      have hs5 : w4.heap.size < w5.heap.size := hp5.out.lt
      have hK5 := Lib.hid (hK4H.out.new hn5)
      go_upto_region 10 with fail
      rw [← hw5]
      clear hw5 hn5
      go_wp2_with fail
      refine (hall2.out w5 lv' mv' hK5.out).mono ?_
      rintro e w6 ⟨g2, rfl, hrow2, hg2, hn6⟩
      have hrow2 := Lib.hid hrow2
      have hrow1' := Lib.hid (row_new (row_new hrow4.out hn5H.out) hn6)
      have hK6 := Lib.hid (hK5.out.new hn6)
      have hp6 := Lib.hid (hp5.out.new hn6)
      have hO6 := Lib.hid (own_new (own_new hO4.out hn5H.out) hn6)
      have hO6lt : Hid (∀ g, u5.ownBlock = some g → g ≠ w4.heap.size) := fun g hg => by
        have := (hO4.out.lt g hg).2
        omega
      have hR6 : Hid (∀ j, j < i → OwnI w6 w.heap.size (dv j) (G j)) := fun j hj => own_new (own_new (hR4.out j hj) hn5H.out) hn6
      have hN6 := Lib.hid ((hN4.out.next hn5H.out).next hn6)
      have hs6 := hn6.size
      have hn200 := (hin.out i).1.n200
      obtain ⟨gp, hgp⟩ : ∃ gp, gp = w4.heap.size := ⟨_, rfl⟩
      obtain ⟨P, hP⟩ : ∃ P, Hid (P = needed (S i)) := ⟨_, rfl⟩
      obtain ⟨P', hP'⟩ : ∃ P', Hid (P' = needed (S (i + 1))) := ⟨_, rfl⟩
      have hnn := (hst.out i).2.2.2
      obtain ⟨n, hn⟩ : ∃ n, Hid (n = (S i).n) := ⟨_, rfl⟩
      obtain ⟨n', hn'⟩ : ∃ n', Hid (n' = (S (i + 1)).n) := ⟨_, rfl⟩
      have hgR : Hid (G i = (List.range n).filter fun b => P b && !P' b) := by
        show _ = _
        rw [(hst.out i).2.2.1, hn.out, hP.out, hP'.out]
        rfl
      rw [← hn.out, ← hP.out] at hrow1'
      rw [← hn'.out, ← hP'.out] at hrow2
      rw [← hn.out] at hn200
      rw [← hn.out, ← hn'.out] at hnn
      rw [← hgp] at hp6 hO6lt
      have hg1p : g1 ≠ gp := by omega
      have hg2p : g2 ≠ gp := by omega
      have hpz : gp < w6.heap.size := by omega
      have hpw : w.heap.size ≤ gp := by omega
      clear hn6
      show _
      dsimp only
      rw [← hn.out, ← hn'.out, ← hgp]
      clear hgp
      go_wp2_with fail
      go_loopw [34] (fun x wx => ∃ (t : Nat) (bv : Value), x = .int .i64 (t : Nat) ∧ t ≤ n ∧ Hid (Blk wx gp 35 #[.int .i64 cd, bv]) ∧ Hid (OwnI wx w6.heap.size bv ((List.range t).filter fun b => P b && !P' b)) ∧ Hid (Alt (fun k => k = gp) w6 wx)) (fun x _ => n - (intOf x).toNat)
      case atStart => exact ⟨0, _, rfl, Nat.zero_le _, hp6, World.ownsRow_nil _ _ _ _, Lib.hid (Alt.refl _)⟩
      case round =>
        obtain ⟨t, bv, rfl, ht, hB, hL, hA⟩ := hrel
        by_cases htn : t < n
        · have htl : (t : Int) < (n : Int) := by omega
          have htl' : (t : Int) < (n' : Int) := by omega
          have hr1 := hA.out.row_is hrow1'.out hg1p
          have hr2 := hA.out.row_is hrow2.out hg2p
          have x1 := hr1.cell htn
          have x2 := hr2.cell (show t < n' by omega)
          have y1 := hB.out.cell 1
          simp at x1 x2 y1
          have hmo := Lib.hid (filter_more (fun b => P b && !P' b) t)
          have hza := hA.out.size
          have hll : ((List.range t).filter fun b => P b && !P' b).length ≤ t := by
            have := List.length_filter_le (fun b => P b && !P' b) (List.range t)
            rwa [List.length_range] at this
          clear hr1 hr2
          by_cases h1 : P t = true
          · rw [h1] at x1
            by_cases h2 : P' t = true
            · rw [h2] at x2
              simp only [h1, h2, Bool.not_true, Bool.and_false, Bool.false_eq_true, if_false, List.append_nil] at hmo
              clear h1 h2
              go_wp2
              go_roundw
              case rel => exact ⟨t + 1, bv, by go_num, by omega, hB, by show World.ownsRow _ _ _ _ _ _ _; rw [hmo.out]; exact hL.out, hA⟩
              case measure => simp [intOf]; omega
            · have h2f : P' t = false := by simpa using h2
              rw [h2f] at x2
              simp only [h1, h2f, Bool.not_false, Bool.and_true, if_true] at hmo
              obtain ⟨L, hLe⟩ : ∃ L, Hid (L = (List.range t).filter fun b => P b && !P' b) := ⟨_, rfl⟩
              rw [← hLe.out] at hL hll hmo
              have hown := hL.out
              have hba := hB.out.alloc (.cells #[.int .i64 (t : Nat)] 3)
              have hkeep : Hid (∀ w7, (wr.alloc (.cells #[.int .i64 (t : Nat)] 3)).grownBy w7 bv.ownBlock → Blk w7 gp 35 #[.int .i64 cd, bv] ∧ w7.cell? ⟨gp, 1, none⟩ = some bv ∧ w7.frozen? ⟨gp, 1, none⟩ = false) := fun w7 hg => by
                have hb7 := hba.grown hg (own_ne_blk (hown.alloc _) hba (by decide))
                exact ⟨hb7, by rw [hb7.cell 1]; rfl, hb7.frozen 1⟩
              have y2 := hba.cell 1
              simp at y2
              clear h1 h2 h2f hba
              go_wp2_with
                (at_builtin; refine wpList_append_lies _ rfl _ _ 33 rfl w6.heap.size 3 j0 _ 1 8 Try.underlying33 hj0 hy0 hy1 hy2 rfl (by decide) bv L.length (intL L) rfl (hown.alloc _) ⟨wr.heap.size, 0, none⟩ 1 1 [.int .i64 (t : Nat)] rfl rfl (World.news_of_block (cs := #[.int .i64 _]) (t := 3) (fr := (0, 0)) (heap_alloc_new wr _)) (by simp [Value.oneCell']) (by omega) (by unfold maxLen; omega) (by omega) (by simp; omega) _ rfl ?_; intro g7 c7 w7 hown7 hgr7 hat7 hlt7
                 obtain ⟨hb7, f7, f8⟩ := hkeep.out w7 hgr7
                 have hb7 := Lib.hid hb7
                 have hgr := Lib.hid hgr7
                 have hownH := Lib.hid hown7
                 clear hgr7 hown7)
              go_roundw
              case rel =>
                refine ⟨t + 1, .slice (some ⟨g7, 0, none⟩) (L.length + 1) c7, by go_num, by omega, hb7.out.put 1 _, ?_, ?_⟩
                · show World.ownsRow _ _ _ _ _ _ _
                  rw [hmo.out, intL_more, List.length_append]
                  exact own_keepS hownH.out hb7.out (by decide) _
                · exact ((hA.out.alloc _).grown hgr.out fun r e => .inr (hown.lt r e).1).set (.inl rfl) _
              case measure => simp [intOf]; omega
          · have h1f : P t = false := by simpa using h1
            rw [h1f] at x1
            simp only [h1f, Bool.false_and, Bool.false_eq_true, if_false, List.append_nil] at hmo
            clear h1 h1f
            go_wp2
            go_roundw
            case rel => exact ⟨t + 1, bv, by go_num, by omega, hB, by show World.ownsRow _ _ _ _ _ _ _; rw [hmo.out]; exact hL.out, hA⟩
            case measure => simp [intOf]; omega
        · have htn' : n = t := by omega
          have hLt : Hid (OwnI wr w6.heap.size bv (G i)) := by
            rw [hgR.out, htn']
            exact hL.out
          obtain ⟨X, xc, hbv, _⟩ := own_open hLt.out
          obtain ⟨xn, hxn⟩ : ∃ xn, xn = (G i).length := ⟨_, rfl⟩
          rw [← hxn] at hbv
          subst hbv
          have y0 := hB.out.cell 0
          have y1 := hB.out.cell 1
          simp at y0 y1
          have hOx : wr.ownsRow w.heap.size 35 2 u5 i (gnL C dv i) := hA.out.own hO6.out fun g hg e => hO6lt.out g hg e
          have hKx : Hid (Nd w.heap.size nb w.heap.size (i + 1) (S (i + 1)) lv' mv' wr) := hK6.out.alt hA.out (fun k hk e => hK6.out.apart_blk hp6.out (by decide) (by decide) (by rw [← e]; exact hk)) fun j g hj hg e => own_ne_blk (hK6.out.ll j hj) hp6.out (by decide) (by rw [hg, e])
          have hRx : Hid (∀ j, j < i + 1 → OwnI wr w.heap.size (upd dv i (.slice X xn xc) j) (G j)) := fun j hj => by
            by_cases e : j = i
            · subst e
              rw [upd_same]
              exact own_mono hLt.out (by omega)
            · rw [upd_ne _ _ e]
              exact hA.out.own (hR6.out j (by omega)) fun g hg e' => own_ne_blk (hR6.out j (by omega)) hp6.out (by decide) (by rw [hg, e'])
          have hNx : Hid (New w wr) := hN6.out.trans (hA.out.below (by omega) fun g hg => by rw [hg]; exact hpw)
          have hzx := hNx.out.size
          have hni : ¬ (t : Int) < (n : Int) := by omega
          clear hxn
          go_wp2_with (at_builtin; refine wpList_append_own _ rfl _ _ 30 rfl w.heap.size 35 i0 _ 2 32 Try.underlying30 hi0 hz0 hz1 hz2 rfl (by decide) u5 i (gnL C dv i) rfl (hOx.alloc _) ⟨wr.heap.size, 0, none⟩ 1 1 [.int .i64 cd, .slice X xn xc] rfl rfl (World.news_of_block (cs := #[.int .i64 _, .slice _ _ _]) (t := 35) (fr := (0, 0)) (heap_alloc_new wr _)) (by simp [Value.oneCell']) (by unfold maxLen; omega) (by omega) (by simp; omega) ?_; intro v8 w8 hown8 hgr8 hnil8)
          have hfin : Hid (Nd w.heap.size nb w.heap.size (i + 1) (S (i + 1)) lv' mv' w8 ∧ w8.ownsRow w.heap.size 35 2 v8 (i + 1) (gnL C (upd dv i (.slice X xn xc)) (i + 1)) ∧ (∀ j, j < i + 1 → OwnI w8 w.heap.size (upd dv i (.slice X xn xc) j) (G j)) ∧ New w w8) := by
            have ha : New wr (wr.alloc (.cells #[.int .i64 cd, .slice X xn xc] 35)) := (New.refl wr).alloc _
            have hKa := hKx.out.new ha
            refine ⟨hKa.alt (K := fun g => u5.ownBlock = some g) (Alt.grown (Alt.refl _) hgr8 fun r e => .inl e) (fun g hg e => hKa.apart (hOx.alloc _) (by decide) (by decide) hg e) (fun j g hj hg e => own_ne2 (hKa.ll j hj) (hOx.alloc _) (by decide) hg e), by rw [gnL_more, ← hcd.out]; exact hown8, fun j hj => own_keepG (own_new (hRx.out j hj) ha) hgr8 fun g hg e => own_ne2 (own_new (hRx.out j hj) ha) (hOx.alloc _) (by decide) hg e, (hNx.out.next ha).grown hgr8 fun r e => (hOx.lt r e).1⟩
          clear hown8 hgr8 hnil8 hOx
          go_wp2
          go_roundw
          case rel => exact ⟨i + 1, lv', mv', _, by go_num, by omega, hfin.out.1, hfin.out.2.1, hfin.out.2.2.1, hfin.out.2.2.2⟩
          case measure => simp [intOf]; omega
    · have him : m = i := by omega
      subst him
      have hf := Lib.hid (And.intro hO.out (And.intro hR.out hN.out))
      clear hO hR hN
      go_wp2
      exact bodyPost_ret (v := .tuple #[u5, .int .i64 0]) (by simp [results, Try.results9, go_sem]) rfl ⟨⟨u5, dv, rfl, hf.out.1, hf.out.2.1⟩, hf.out.2.2⟩
end Go.Proofs.Ytiffgeglbafenaa.snap
