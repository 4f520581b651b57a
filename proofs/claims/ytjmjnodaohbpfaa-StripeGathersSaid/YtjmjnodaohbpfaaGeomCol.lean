/-
  Contracts of geom.Columns and of the reference's GeomColumns.
-/
import Derived.Test.YtjmjnodaohbpfaaGeomCost
import Derived.Test.YtjmjnodaohbpfaaQuietTail
import Derived.Handy
import Derived.BigRegion
import Derived.OneCell
import Derived.Deep.DeepCutAuto
import Derived.Deep.CutBlock
import Derived.Deep.OwnRows
import Derived.Deep.AppendLies
import Derived.Deep.Onto
import Derived.Deep.RegionHeld3
import Derived.OwnWalk
namespace Go.Proofs.Ytjmjnodaohbpfaa.geom
open Go.ChangeShapes Go.WideShapes Go.ChangeAt Go.RowKit Go.Proofs.Ytjmjnodaohbpfaa.kit Go.Deep
set_option linter.unusedVariables false
set_option maxRecDepth 100000

theorem infoCol : (Try.prog.info? 63).map (fun i => (i.zero, i.size, i.bytes)) = some (some (.agg #[.int .i64 0, .int .i64 0, .int .i64 0, .bool false]), 4, 32) := by kernel_rfl
/-- one column, as it lies -/
def colC (dr pa ad : Nat) (C : Nat → Nat) (j : Nat) : List Value := [.int .i64 (((ad + j) % dr : Nat) : Int), .int .i64 (((ad + j) / dr : Nat) : Int), .int .i64 (C j : Nat), .bool (decide (j < pa))]
def colL (dr pa ad : Nat) (C : Nat → Nat) (k : Nat) : List Value := (List.range k).flatMap (colC dr pa ad C)
theorem colL_succ (dr pa ad : Nat) (C : Nat → Nat) (k : Nat) : colL dr pa ad C (k + 1) = colL dr pa ad C k ++ colC dr pa ad C k := by
  unfold colL; rw [List.range_succ, List.flatMap_append]; simp
theorem colL_len (dr pa ad : Nat) (C : Nat → Nat) : ∀ k : Nat, (colL dr pa ad C k).length = 4 * k
  | 0 => rfl
  | k + 1 => by rw [colL_succ, List.length_append, colL_len dr pa ad C k]; simp [colC]; omega
theorem colL_at (dr pa ad : Nat) (C : Nat → Nat) : ∀ (k j f : Nat), j < k → f < 4 → (colL dr pa ad C k)[j * 4 + f]? = (colC dr pa ad C j)[f]?
  | 0, j, f, h, _ => absurd h (Nat.not_lt_zero j)
  | k + 1, j, f, h, hf => by
    rw [colL_succ]
    by_cases hj : j < k
    · rw [List.getElem?_append_left (by rw [colL_len]; omega)]; exact colL_at dr pa ad C k j f hj hf
    · have : j = k := by omega
      subst this
      rw [List.getElem?_append_right (by rw [colL_len]; omega), colL_len]
      congr 1; omega
theorem colL_congr (dr pa ad : Nat) (C D : Nat → Nat) : ∀ (k : Nat) (h : ∀ j, j < k → C j = D j), colL dr pa ad C k = colL dr pa ad D k
  | 0, _ => rfl
  | k + 1, h => by
    rw [colL_succ, colL_succ, colL_congr dr pa ad C D k (fun j hj => h j (by omega))]
    unfold colC; rw [h k (by omega)]
def longP (pa ct wd : Nat) : Nat := if 0 < ct % wd then ct % wd + pa else 0
def numP (dr pa ct wd : Nat) : Nat := if ct / wd = 0 then longP pa ct wd else dr
def cntC (pa ct wd : Nat) (j : Nat) : Nat := ct / wd + if j < longP pa ct wd then 1 else 0
set_option maxHeartbeats 1000000 in
theorem Columns_ok (dr pa ad ct wd : Nat) (h1 : 2 ≤ dr) (h2 : dr ≤ 8) (h3 : 1 ≤ pa) (h4 : pa ≤ 3) (h5 : dr = pa + wd) (h6 : 1 ≤ wd) (h7 : ad ≤ 65536) (h8 : 1 ≤ ct) (h9 : ct ≤ 32) (w : World) :
    Calls Try.prog 54 #[.int .i64 dr, .int .i64 pa, .int .i64 ad, .int .i64 ct] w fun e w' => ∃ v, e = .returned (.tuple #[v, .int .i64 0]) ∧ w'.ownsRow w.heap.size 63 4 v (numP dr pa ct wd) (colL dr pa ad (cntC pa ct wd) (numP dr pa ct wd)) ∧ New w w' := by
  have hm' : decide (mayP dr pa) = true := decide_eq_true (by unfold mayP; omega)
  have hc' : decide (cntP ct) = true := decide_eq_true (by unfold cntP; omega)
  have ha' : decide (adrP ad) = true := decide_eq_true (by unfold adrP; omega)
  obtain ⟨i0, hi0, hz0, hz1, hz2⟩ := info_parts infoCol
  have hwd : (dr : Int) - (pa : Int) = (wd : Int) := by omega
  have hq1 := Nat.div_le_self ct wd
  have hr1 := Nat.mod_lt ct h6
  have h50 := Lib.hid h5
  clear h5
  have hwd0 : (wd : Int) ≠ 0 := by omega
  have e1 : IntKind.i64.wrap ((dr : Int) - (pa : Int)) = (wd : Int) := by rw [hwd]; exact IntWalk.i64_in _ (by have := h50.out; omega)
  obtain ⟨q, hq⟩ : ∃ q, Hid (q = ct / wd) := ⟨_, (rfl : _ = _)⟩
  obtain ⟨r, hr⟩ : ∃ r, Hid (r = ct % wd) := ⟨_, (rfl : _ = _)⟩
  rw [← hq.out] at hq1
  rw [← hr.out] at hr1
  have e4 : (ct : Int) / (wd : Int) = (q : Int) := by rw [hq.out]; push_cast; rfl
  have e5 : (ct : Int) % (wd : Int) = (r : Int) := by rw [hr.out]; push_cast; rfl
  have e2 : IntKind.i64.wrap ((ct : Int).tdiv (wd : Int)) = (q : Int) := by
    rw [Int.tdiv_eq_ediv_of_nonneg (by omega), e4]; exact IntWalk.i64_in _ (by omega)
  have e3 : (ct : Int).tmod (wd : Int) = (r : Int) := by
    rw [Int.tmod_eq_emod_of_nonneg (by omega), e5]
  obtain ⟨lg, hlg⟩ : ∃ lg, Hid (lg = longP pa ct wd) := ⟨_, (rfl : _ = _)⟩
  obtain ⟨nn, hnn⟩ : ∃ nn, Hid (nn = numP dr pa ct wd) := ⟨_, (rfl : _ = _)⟩
  have hl1 : Hid (0 < r → lg = r + pa) := fun h => by rw [hlg.out]; unfold longP; rw [← hr.out, if_pos h]
  have hl2 : Hid (¬ 0 < r → lg = 0) := fun h => by rw [hlg.out]; unfold longP; rw [← hr.out, if_neg h]
  have hn1 : Hid (q = 0 → nn = lg) := fun h => by rw [hnn.out]; unfold numP; rw [← hq.out, if_pos h, ← hlg.out]
  have hn2 : Hid (q ≠ 0 → nn = dr) := fun h => by rw [hnn.out]; unfold numP; rw [← hq.out, if_neg h]
  obtain ⟨C, hC⟩ : ∃ C, Hid (C = cntC pa ct wd) := ⟨_, (rfl : _ = _)⟩
  have hCj1 : Hid (∀ j, j < lg → C j = q + 1) := fun j hj => by rw [hC.out]; unfold cntC; rw [← hlg.out, ← hq.out, if_pos hj]
  have hCj2 : Hid (∀ j, ¬ j < lg → C j = q) := fun j hj => by rw [hC.out]; unfold cntC; rw [← hlg.out, ← hq.out, if_neg hj]; rfl
  have hnn8 : nn ≤ 8 := by
    have h50 := h50.out
    by_cases hz : q = 0
    · rw [hn1.out hz]
      by_cases hz2 : 0 < r
      · rw [hl1.out hz2]; omega
      · rw [hl2.out hz2]; omega
    · rw [hn2.out hz]; exact h2
  have hCs : Hid (∀ k, colL dr pa ad C (k + 1) = colL dr pa ad C k ++ colC dr pa ad C k) := colL_succ _ _ _ _
  rw [← hnn.out, ← hC.out]
  go_enter Try.func54, Try.ntmps54
  go_wp2_with (first | (go_at_call 64; refine (may_any _ _ _).mono ?_; rintro e w1 ⟨rfl, hb1⟩) | (go_at_call 65; refine (counted_any _ _).mono ?_; rintro e w' ⟨rfl, rfl⟩) | (go_at_call 66; refine (addressed_any _ _).mono ?_; rintro e w' ⟨rfl, rfl⟩))
  go_quiet (fail)
  obtain ⟨W1, hW1⟩ : ∃ W1, W1 = w1.drewN nq := ⟨_, rfl⟩
  have hnW1 : New w W1 := by rw [hW1]; exact hb1.of_alloc.drewN _
  rw [← hW1]
  clear hW1
  go_upto_if 45 with fail
  go_cut [13] (fun s wx => s = .int .i64 lg ∧ wx = W1)
  case first =>
    go_wp2
    all_goals go_meet
    · exact ⟨by rw [hl1.out (by assumption)]; push_cast; rfl, rfl⟩
    · exact ⟨by rw [hl2.out (by assumption)]; rfl, rfl⟩
  case rest =>
    obtain ⟨rfl, rfl⟩ := hcut
    go_upto_if 51 with fail
    go_cut [14] (fun s wx => s = .int .i64 nn ∧ wx = wc)
    case first =>
      go_wp2
      all_goals go_meet
      · rename_i hq0
        exact ⟨by rw [hn1.out (by simpa using hq0)], rfl⟩
      · rename_i hq0
        exact ⟨by rw [hn2.out (by simpa using hq0)], rfl⟩
    case rest =>
      obtain ⟨rfl, rfl⟩ := hcut
      obtain ⟨W1, hW1⟩ : ∃ W1, W1 = wc := ⟨_, rfl⟩
      subst hW1
      have hd0 : (dr : Int) ≠ 0 := by omega
      clear e1 e2 e3 e4 e5 hwd hwd0
      go_wp2
      go_loopw [54, 15] (fun c o wr => ∃ j : Nat, c = .int .i64 j ∧ j ≤ nn ∧ wr.ownsRow w.heap.size 63 4 o j (colL dr pa ad C j) ∧ New w wr) (fun c _ _ => nn - (intOf c).toNat)
      case atStart => exact ⟨0, rfl, by omega, World.ownsRow_nil _ _ _ _, hnW1⟩
      case round =>
        obtain ⟨j, rfl, hj, hown, hnw⟩ := hrel
        by_cases hlt : j < nn
        · obtain ⟨x, hx⟩ : ∃ x, Hid (x = (ad + j) % dr) := ⟨_, (rfl : _ = _)⟩
          obtain ⟨y, hy⟩ : ∃ y, Hid (y = (ad + j) / dr) := ⟨_, (rfl : _ = _)⟩
          have e1 : IntKind.i64.wrap ((ad : Int) + (j : Int)) = (ad : Int) + (j : Int) := IntWalk.i64_in _ (by omega)
          have hyl : y ≤ ad + j := by rw [hy.out]; exact Nat.div_le_self _ _
          have e5 : ((ad : Int) + (j : Int)) % (dr : Int) = (x : Int) := by rw [hx.out]; push_cast; rfl
          have e6 : ((ad : Int) + (j : Int)) / (dr : Int) = (y : Int) := by rw [hy.out]; push_cast; rfl
          have e3 : ((ad : Int) + (j : Int)).tmod (dr : Int) = (x : Int) := by rw [Int.tmod_eq_emod_of_nonneg (by omega), e5]
          have e4 : ((ad : Int) + (j : Int)).tdiv (dr : Int) = (y : Int) := by rw [Int.tdiv_eq_ediv_of_nonneg (by omega), e6]
          have e2 : IntKind.i64.wrap (y : Int) = (y : Int) := IntWalk.i64_in _ (by omega)
          go_wp2
          go_region
          obtain ⟨WY, hWY⟩ : ∃ WY, WY = (wr.alloc (.cells #[.int .i64 x, .int .i64 y, .int .i64 q, .bool (decide (j < pa))] 63)).drew := ⟨_, rfl⟩
          rw [← hWY]
          have hB : Blk WY wr.heap.size 63 #[.int .i64 x, .int .i64 y, .int .i64 q, .bool (decide (j < pa))] := by rw [hWY]; exact Blk.fresh _ _ _
          have hNY : New w WY := by rw [hWY]; exact (hnw.alloc _).drew
          have hownY : WY.ownsRow w.heap.size 63 4 u15 j (colL dr pa ad C j) := by rw [hWY]; exact (hown.alloc _).drew
          have hne : u15.ownBlock ≠ some wr.heap.size := fun he => absurd (hown.lt _ he).2 (Nat.lt_irrefl _)
          clear hWY
          go_upto_if 74 with fail
          go_cut [] (fun wx => Blk wx wr.heap.size 63 #[.int .i64 x, .int .i64 y, .int .i64 (C j : Nat), .bool (decide (j < pa))] ∧ New w wx ∧ wx.ownsRow w.heap.size 63 4 u15 j (colL dr pa ad C j))
          case first =>
            have c2 := hB.cell 2
            have f2 := hB.frozen 2
            simp at c2
            by_cases hjl : j < lg
            · have hCj := Lib.hid (hCj1.out j hjl)
              go_wp2
              go_meet
              have hS := hB.put 2 (.int .i64 ((q : Int) + 1))
              have hle : w.heap.size ≤ wr.heap.size := hnw.size
              refine ⟨?_, hNY.set (p := ⟨wr.heap.size, 2, none⟩) hle _, ownsRow_setCell_other hownY (a := ⟨wr.heap.size, 2, none⟩) hne _⟩
              rw [hCj.out]
              exact hS
            · have hCj := Lib.hid (hCj2.out j hjl)
              go_wp2
              go_meet
              rw [hCj.out]
              exact ⟨hB, hNY, hownY⟩
          case rest =>
            obtain ⟨hB', hN', hown'⟩ := hcut
            obtain ⟨WX, hWX⟩ : ∃ WX, WX = wc := ⟨_, rfl⟩
            subst hWX
            have c0 := hB'.cell 0
            have c1 := hB'.cell 1
            have c2 := hB'.cell 2
            have c3 := hB'.cell 3
            simp at c0 c1 c2 c3
            go_wp2_with (at_builtin; refine wpList_append_own _ rfl _ _ 55 rfl w.heap.size 63 i0 _ 4 32 Try.underlying55 hi0 hz0 hz1 hz2 rfl (by decide) _ j (colL dr pa ad C j) rfl (hown'.alloc _) ⟨WX.heap.size, 0, none⟩ 1 1 [.int .i64 x, .int .i64 y, .int .i64 (C j : Nat), .bool (decide (j < pa))] rfl rfl (World.news_of_block (cs := #[.int .i64 _, .int .i64 _, .int .i64 _, .bool _]) (t := 63) (fr := (0, 0)) (heap_alloc_new WX _)) (by simp [Value.oneCell']) (by unfold maxLen; omega) (by omega) (by have := hN'.size; simp; omega) ?_; intro v3 w3 hown3 hgrow hnil)
            have hrow : colC dr pa ad C j = [.int .i64 x, .int .i64 y, .int .i64 (C j : Nat), .bool (decide (j < pa))] := by rw [hx.out, hy.out]; rfl
            rw [← hrow, ← hCs.out] at hown3
            have hown4 := Lib.hid hown3
            have hN3 : New w w3 := hN'.append' hgrow fun g hg => (hown'.lt _ hg).1
            clear hrow hown3 hgrow hnil
            go_wp2
            go_roundw
            case rel => exact ⟨j + 1, by go_num, by omega, hown4.out, hN3⟩
            case measure => simp [intOf]; omega
        · have hin : j = nn := by omega
          subst hin
          go_wp2
          go_ret2
          exact ⟨_, rfl, hown, hnw⟩
end Go.Proofs.Ytjmjnodaohbpfaa.geom
