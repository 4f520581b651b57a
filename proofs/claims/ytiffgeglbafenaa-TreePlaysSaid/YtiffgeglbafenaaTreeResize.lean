/-
  Contract of resized.
-/
import Derived.Test.YtiffgeglbafenaaTreeForest
namespace Go.Proofs.Ytiffgeglbafenaa.tree
open Go.ChangeShapes Go.WideShapes Go.ChangeAt Go.RowKit Go.Proofs.Ytiffgeglbafenaa.kit Go.Deep
set_option linter.unusedVariables false
set_option maxRecDepth 100000
theorem Tr.bare {w : World} {P : Nat → Prop} {c L g : Nat} {F : Nat → Value} {f : Nat → Nat} (hN : Nd w g F c L) (hF : ∀ i, 3 ≤ i → i < 71 → F i = bareF (L : Int) i) (hP : P g) (hz : ∀ i, i < roomN L → f i = 0) : Tr w P (c + 1) L (ptr g) f := by
  cases L with
  | zero => exact .inr ⟨g, F, c, rfl, hP, hN, Nat.lt_succ_self c, fun i hi => by
      rw [hF _ (by omega) (by omega), hz i hi]
      unfold bareF
      rw [if_neg (by omega), if_neg (by omega), if_neg (by omega)]
      rfl⟩
  | succ L => exact .inr ⟨g, F, c, rfl, hP, hN, Nat.lt_succ_self c, fun j hj => by
      rw [hF _ (by omega) (by omega)]
      have e : bareF ((L + 1 : Nat) : Int) (3 + j) = .pointer none := by
        unfold bareF
        rw [if_neg (by omega), if_neg (by omega), if_pos (by omega)]
      rw [e]
      refine Tr.nil _ _ _ fun i hi => hz _ ?_
      rw [roomN_succ]
      have : j * roomN L ≤ 3 * roomN L := Nat.mul_le_mul_right _ (by omega)
      omega⟩
/-- what resized leaves -/
def ResizedP (c fb : Nat) (vv : Value) (size : Nat) (f' : Nat → Nat) (w : World) (e : Ending) (w' : World) : Prop :=
  ∃ p, e = .returned (.agg #[.pointer p, .int .i64 size]) ∧ Tr w' (fun _ => True) (c + 1) (lvl size) (.pointer p) f' ∧ Fb w' fb vv ∧ Alt (fun k => k = fb) w w'
theorem raised_any (fb L lv c vc : Nat) (vA p : Option Addr) (sz : Int) (P : Nat → Prop) (c' : Nat) (f : Nat → Nat) (w : World) (hF : Fb w fb (.slice vA c vc)) (hT : Tr w P c' lv (.pointer p) f) (hL : p ≠ none → lv ≤ L) (hL3 : L ≤ 3) (hz : ∀ i, roomN lv ≤ i → f i = 0) (hz2 : p = none → ∀ i, i < roomN L → f i = 0) :
    Calls Try.prog 25 #[ptr fb, .agg #[.pointer p, .int .i64 sz], .int .i64 (L : Int)] w (RaisedP P c' c fb (.slice vA c vc) L f w) := by
  rcases hT.form with ⟨he, _⟩ | ⟨g, F, b, he, _, hN, _⟩
  · injection he with he
    subst he
    exact raised_nil fb L c vc vA sz P c' f w hF (hz2 rfl)
  · injection he with he
    subst he
    exact raised_some fb L lv g b c vc vA F sz P c' f w hF hN hT (hL (by simp)) hL3 hz
theorem infoVer2 : (Try.prog.info? 78).map (·.size) = some 2 := by kernel_rfl
theorem resized_end {fb c vc size : Nat} {vA p : Option Addr} {f' : Nat → Nat} {w w5 : World} (hT : Tr w5 (fun _ => True) (c + 1) (lvl size) (.pointer p) f') (hF : Fb w5 fb (.slice vA c vc)) (hA : Alt (fun k => k = fb) w w5) (hb : Blk w5 (w.heap.size + 1) 78 #[.pointer none, .int .i64 0]) :
    ResizedP c fb (.slice vA c vc) size f' w (.returned (.agg #[.pointer p, .int .i64 size])) (w5.setRow (w.heap.size + 1) #[.pointer p, .int .i64 size]) := by
  have hg := grown_row w5 (w.heap.size + 1) #[.pointer p, .int .i64 (size : Nat)]
  refine ⟨p, rfl, hT.grown hg fun g cs hn e => blk_ne' hn hb (by decide) (Option.some.inj e).symm, ?_, hA.row (.inr (Nat.le_succ _)) _⟩
  obtain ⟨m, hm⟩ := hF
  exact ⟨m, hm.grown hg fun e => blk_ne' hm hb (by decide) (Option.some.inj e).symm⟩
set_option maxHeartbeats 1000000 in
theorem Resized_any (fb c vc sz size : Nat) (vA p : Option Addr) (f : Nat → Nat) (w : World) (hF : Fb w fb (.slice vA c vc)) (hT : Tr w (fun _ => True) c (lvl sz) (.pointer p) f) (hsz : sz ≤ 4096) (hf : ∀ i, sz ≤ i → f i = 0) (hs : size ≤ 4096) :
    Calls Try.prog 26 #[ptr fb, .agg #[.pointer p, .int .i64 (sz : Nat)], .int .i64 (size : Nat)] w (ResizedP c fb (.slice vA c vc) size (cutF size f) w) := by
  obtain ⟨g, hg⟩ : ∃ g : Nat → Nat, Hid (g = cutF size f) := ⟨_, rfl⟩
  have hg1 : Hid (∀ i, roomN (lvl sz) ≤ i → g i = 0) := fun i hi => by
    rw [hg.out]
    unfold cutF
    rw [hf i (Nat.le_trans (lvl_room hsz) hi)]
    split <;> rfl
  have hg2 : Hid (∀ i, size ≤ i → g i = 0) := fun i hi => by
    rw [hg.out]
    unfold cutF
    rw [if_neg (by omega)]
  have hgc : Hid (cutB 0 size f = g) := by
    show _ = _
    rw [hg.out]
    funext i
    unfold cutB cutF
    rw [Nat.zero_add]
  rw [← hg.out]
  clear hg
  obtain ⟨lv, hlv⟩ : ∃ lv, Hid (lv = lvl size) := ⟨_, rfl⟩
  have hlv3 : lv ≤ 3 := by rw [hlv.out]; exact lvl_le size
  have hsr : Hid (size ≤ roomN lv) := by rw [hlv.out]; exact lvl_room hs
  have hlev : Hid (∀ w', Calls Try.prog 22 #[.int .i64 (size : Int)] w' fun e w'' => e = .returned (.int .i64 (lv : Nat)) ∧ w' = w'') := fun w' => by rw [hlv.out]; exact levelOf_any size hs w'
  obtain ⟨W1, hW1⟩ : ∃ W1, W1 = (w.alloc (.cells #[.pointer p, .int .i64 sz] 78)).alloc (.cells #[.pointer none, .int .i64 0] 78) := ⟨_, rfl⟩
  have hn1 : New w W1 := by rw [hW1]; exact ((New.refl w).alloc _).alloc _
  have hv : Hid (Blk W1 w.heap.size 78 #[.pointer p, .int .i64 sz]) := by show Blk _ _ _ _; rw [hW1]; exact (Blk.fresh w _ _).alloc _
  have hr : Hid (Blk W1 (w.heap.size + 1) 78 #[.pointer none, .int .i64 0]) := by
    have := Blk.fresh (w.alloc (.cells #[.pointer p, .int .i64 sz] 78)) 78 #[.pointer none, .int .i64 0]
    show Blk _ _ _ _
    rw [hW1]
    simpa using this
  have hF1 := Lib.hid (hF.new hn1)
  have hcut : Hid (Calls Try.prog 35 #[ptr fb, .pointer p, .int .i64 ((0 : Nat) : Int), .int .i64 (size : Int)] W1 (WriteP (QC (fun _ => True) W1) (fun k => k = fb) c fb (.slice vA c vc) (lvl sz) g W1)) := by
    rw [← hgc.out]
    exact cut_any (lvl sz) (lvl_le sz) fb c vc 0 size vA (.pointer p) _ f W1 (hF.new hn1) (hT.new hn1) (by have := roomN_le (lvl_le sz); omega) hs
  have hn1H := Lib.hid hn1
  have hfbl := hF.lt
  clear hF hT hn1
  go_enter Try.func26, Try.ntmps26
  go_upto_region 1 with fail
  rw [← hW1]
  clear hW1
  have v0 := hv.out.cell 0
  simp at v0
  go_wp2_with fail
  refine (hlev.out _).mono ?_
  rintro x w2 ⟨rfl, rfl⟩
  dsimp only
  go_wp2_with fail
  refine hcut.out.mono ?_
  rintro x w3 ⟨v3, rfl, hT3, hF3, hA3⟩
  dsimp only
  obtain ⟨p3, rfl⟩ := hT3.isP
  have hT3 : Hid (Tr w3 (fun _ => True) (c + 1) (lvl sz) (.pointer p3) g) := hT3.mono (Nat.le_refl _) fun _ _ => trivial
  have hF3 := Lib.hid hF3
  have hA3 := Lib.hid hA3
  have hr3 := Lib.hid (hA3.out.blk hr.out (by omega))
  clear hcut v0
  go_wp2_with fail
  go_loopg [8] (lvl sz) (fun k x wr => ∃ (L : Nat) (p' : Option Addr), x = .pointer p' ∧ L ≤ k ∧ (lv ≤ L ∨ L = lvl sz) ∧ Hid (Tr wr (fun _ => True) (c + 1) L (.pointer p') g) ∧ w3 = wr)
  case atStart => exact ⟨lvl sz, p3, rfl, Nat.le_refl _, .inr rfl, hT3, rfl⟩
  case round =>
    obtain ⟨L, p', rfl, hLk, hLo, hT, rfl⟩ := hrel
    have hz : Hid (∀ i, roomN L ≤ i → g i = 0) := fun i hi => by
      rcases hLo with h1 | h1
      · exact hg2.out i (Nat.le_trans hsr.out (Nat.le_trans (roomN_mono h1) hi))
      · exact hg1.out i (by rw [← h1]; exact hi)
    by_cases hd : lv < L ∧ p' ≠ none
    · obtain ⟨hd1, hd2⟩ := hd
      cases L with
      | zero => omega
      | succ L =>
        rcases hT.out with ⟨he, _⟩ | ⟨ga, F, b, he, _, hN, hb, hk⟩
        · injection he with he
          exact absurd he hd2
        · injection he with he
          subst he
          have hk0 : Hid (Tr w3 (fun _ => True) (c + 1) L (F 3) g) := (hk 0 (by omega)).congr fun i _ => by simp
          obtain ⟨pk, hpk⟩ := hk0.out.isP
          have n2 := hN.cell (i := 2) (by omega)
          have n3 := hN.cell (i := 3) (by omega)
          rw [hN.lev] at n2
          rw [hpk] at n3 hk0
          obtain ⟨L1, hL1⟩ : ∃ L1, Hid (L1 = L + 1) := ⟨_, rfl⟩
          rw [← hL1.out] at n2
          have hlt : (lv : Int) < (L1 : Int) := by have := hL1.out; omega
          obtain ⟨k', hk'⟩ : ∃ k', Hid (gk = k' + 1 ∧ L ≤ k') := ⟨gk - 1, by omega, by omega⟩
          clear hN hk hd2
          go_wp2
          go_roundg k'
          case measure => have := hk'.out; omega
          case rel => exact ⟨L, pk, rfl, hk'.out.2, by omega, hk0, rfl⟩
    · have hraise := Lib.hid (raised_any fb lv L c vc vA p' (size : Int) (fun _ => True) (c + 1) g w3 hF3.out hT.out (fun h => Nat.le_of_not_lt fun h2 => hd ⟨h2, h⟩) hlv3 hz.out (fun h i hi => by
        rcases hT.out.form with ⟨_, h1⟩ | ⟨ga, F, b, he, _⟩
        · by_cases h2 : i < roomN L
          · exact h1 i h2
          · exact hz.out i (by omega)
        · subst h
          cases he))
      rcases hT.out.form with ⟨he, _⟩ | ⟨ga, F, b, he, _, hN, _⟩
      focus
        injection he with he
        subst he
        clear hT hz hd
        go_wp2_with fail
      rotate_left
      focus
        injection he with he
        subst he
        have hle : ¬ (lv : Int) < (L : Int) := by
          have : ¬ lv < L := fun h => hd ⟨h, by simp⟩
          omega
        have n2 := hN.cell (i := 2) (by omega)
        rw [hN.lev] at n2
        clear hT hz hd hN
        go_wp2_with fail
      all_goals
        refine hraise.out.mono ?_
        rintro x w4 ⟨v4, rfl, hW4, hF4, hA4⟩
        dsimp only
        have hT4 : Tr w4 (fun _ => True) (c + 1) lv v4 g := hW4.tr (Nat.le_refl _) (Nat.lt_succ_self c) (fun _ _ => trivial) (fun _ _ _ => trivial)
        obtain ⟨p4, rfl⟩ := hT4.isP
        have hr4 := Lib.hid (hA4.blk hr3.out (by omega))
        have hA4' : Hid (Alt (fun k => k = fb) w w4) := ((Alt.of_new hn1H.out).trans hA3.out).trans hA4
        have hF4 := Lib.hid hF4
        cases p4 with
        | none =>
          have hz4 : Hid (∀ i, i < roomN lv → g i = 0) := by
            rcases hT4.form with ⟨_, h1⟩ | ⟨ga, F, b, he, _⟩
            · exact h1
            · cases he
          by_cases hs0 : 0 < size
          · have hsi : (0 : Int) < (size : Int) := by omega
            have hfr := Lib.hid (Fresh_nil fb lv c vc vA w4 hF4.out)
            clear hW4 hA4 hT4 hraise
            go_wp2_with fail
            refine hfr.out.mono ?_
            rintro x w5 ⟨rfl, ⟨F5, hN5, hF5⟩, hFb5, hA5⟩
            dsimp only
            have hb5 := Lib.hid (hA5.blk hr4.out (by omega))
            have hend := Lib.hid (resized_end (size := size) (by rw [← hlv.out]; exact Tr.bare hN5 hF5 trivial hz4.out) hFb5 (hA4'.out.trans hA5) hb5.out)
            clear hN5 hF5 hFb5 hA5 hfr
            go_wp2_with (refine wpList_store_row rfl 78 _ _ rfl (w.heap.size + 1) #[ptr w4.heap.size, .int .i64 (size : Nat)] rfl rfl 78 #[.pointer none, .int .i64 0] hb5.out infoVer2 rfl (by simp [Value.oneCell']) ?_)
            exact bodyPost_ret (v := .agg #[ptr w4.heap.size, .int .i64 (size : Nat)]) (results_cell_row Try.results26 _ _ (w.heap.size + 1) 78 _ (0, 0) _ rfl (Blk.row hb5.out #[ptr w4.heap.size, .int .i64 (size : Nat)]) Try.underlying78 rfl infoVer2) rfl hend.out
          · have hsi : ¬ (0 : Int) < (size : Int) := by omega
            have hend := Lib.hid (resized_end (size := size) (by rw [← hlv.out]; exact hT4) hF4.out hA4'.out hr4.out)
            clear hW4 hA4 hT4 hraise
            go_wp2_with (refine wpList_store_row rfl 78 _ _ rfl (w.heap.size + 1) #[.pointer none, .int .i64 (size : Nat)] rfl rfl 78 #[.pointer none, .int .i64 0] hr4.out infoVer2 rfl (by simp [Value.oneCell']) ?_)
            exact bodyPost_ret (v := .agg #[.pointer none, .int .i64 (size : Nat)]) (results_cell_row Try.results26 _ _ (w.heap.size + 1) 78 _ (0, 0) _ rfl (Blk.row hr4.out #[.pointer none, .int .i64 (size : Nat)]) Try.underlying78 rfl infoVer2) rfl hend.out
        | some a4 =>
          have hend := Lib.hid (resized_end (size := size) (by rw [← hlv.out]; exact hT4) hF4.out hA4'.out hr4.out)
          clear hW4 hA4 hT4 hraise
          go_wp2_with (refine wpList_store_row rfl 78 _ _ rfl (w.heap.size + 1) #[.pointer (some a4), .int .i64 (size : Nat)] rfl rfl 78 #[.pointer none, .int .i64 0] hr4.out infoVer2 rfl (by simp [Value.oneCell']) ?_)
          exact bodyPost_ret (v := .agg #[.pointer (some a4), .int .i64 (size : Nat)]) (results_cell_row Try.results26 _ _ (w.heap.size + 1) 78 _ (0, 0) _ rfl (Blk.row hr4.out #[.pointer (some a4), .int .i64 (size : Nat)]) Try.underlying78 rfl infoVer2) rfl hend.out
end Go.Proofs.Ytiffgeglbafenaa.tree
