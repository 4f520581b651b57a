/-
  Contract of the reference's GeomColumns: rows are dealt out.
-/
import Derived.Test.YtjmjnodaohbpfaaGeomCol
import Derived.Deep.RegionLaw
namespace Go.Proofs.Ytjmjnodaohbpfaa.geom
open Go.ChangeShapes Go.WideShapes Go.ChangeAt Go.RowKit Go.Proofs.Ytjmjnodaohbpfaa.kit Go.Deep
set_option linter.unusedVariables false
set_option maxRecDepth 100000

/-- how many columns a row has -/
def nrR (pa ct wd r : Nat) : Nat := pa + min wd (ct - r * wd)
/-- how many of the first rows have a column -/
def cnR (pa ct wd : Nat) : Nat → Nat → Nat
  | 0, _ => 0
  | r + 1, j => cnR pa ct wd r j + if j < nrR pa ct wd r then 1 else 0
theorem cnR_full (pa ct wd : Nat) : ∀ (r j : Nat), r * wd ≤ ct → j < pa + wd → cnR pa ct wd r j = r
  | 0, _, _, _ => rfl
  | r + 1, j, h, hj => by
    rw [Nat.add_mul] at h
    unfold cnR nrR
    rw [cnR_full pa ct wd r j (by omega) hj, if_pos (by omega)]
theorem cnR_le (pa ct wd : Nat) : ∀ (r j : Nat), cnR pa ct wd r j ≤ r
  | 0, _ => Nat.le_refl _
  | r + 1, j => by have := cnR_le pa ct wd r j; unfold cnR; split <;> omega
theorem rows_end (pa ct wd r : Nat) (hw : 1 ≤ wd) (hct : 1 ≤ ct) (h1 : ct ≤ r * wd) (h2 : r = 0 ∨ ∃ r', r = r' + 1 ∧ r' * wd < ct) :
    nrR pa ct wd 0 = numP (pa + wd) pa ct wd ∧ ∀ j, j < pa + wd → cnR pa ct wd r j = cntC pa ct wd j := by
  have hdm := Nat.div_add_mod ct wd
  have hm := Nat.mod_lt ct hw
  unfold nrR numP cntC longP
  generalize hq : ct / wd = q at *
  generalize hmm : ct % wd = m at *
  rcases h2 with rfl | ⟨r, rfl, h2⟩
  · omega
  · have hqr : q = r ∨ q = r + 1 := by
      rcases Nat.lt_or_ge q r with h | h
      · have := Nat.mul_le_mul_right wd (show q + 1 ≤ r from h)
        rw [Nat.add_mul] at this
        rw [Nat.mul_comm] at hdm
        omega
      · rcases Nat.lt_or_ge (r + 1) q with h3 | h3
        · have := Nat.mul_le_mul_right wd (show r + 1 + 1 ≤ q from h3)
          rw [Nat.add_mul] at this
          rw [Nat.mul_comm] at hdm
          omega
        · omega
    rw [Nat.add_mul] at h1
    rw [Nat.mul_comm] at hdm
    rcases hqr with rfl | rfl
    · have hm0 : 0 < m := by omega
      rw [if_pos hm0]
      refine ⟨?_, fun j hj => ?_⟩
      · by_cases h0 : q = 0
        · subst h0; simp; simp at hdm; omega
        · have := Nat.mul_le_mul_right wd (show 1 ≤ q by omega)
          rw [if_neg h0]; simp; omega
      · unfold cnR nrR
        rw [cnR_full pa ct wd q j (by omega) hj]
        by_cases hj2 : j < m + pa
        · rw [if_pos hj2, if_pos (by omega)]
        · rw [if_neg hj2, if_neg (by omega)]
    · have hm0 : ¬ 0 < m := by rw [Nat.add_mul] at hdm; omega
      rw [if_neg hm0]
      refine ⟨?_, fun j hj => ?_⟩
      · rw [if_neg (by omega)]; rw [Nat.add_mul] at hdm; simp; omega
      · rw [cnR_full pa ct wd (r + 1) j (by omega) hj]; simp
theorem colL_set (dr pa ad : Nat) (C : Nat → Nat) (c v : Nat) : ∀ (k : Nat), c < k → (colL dr pa ad C k).set (c * 4 + 2) (.int .i64 (v : Nat)) = colL dr pa ad (fun j => if j = c then v else C j) k
  | 0, h => absurd h (Nat.not_lt_zero c)
  | k + 1, h => by
    rw [colL_succ, colL_succ]
    by_cases hj : c < k
    · rw [List.set_append_left _ _ (by rw [colL_len]; omega), colL_set dr pa ad C c v k hj]
      congr 1
      have hne : ¬ k = c := by omega
      unfold colC; simp [hne]
    · have : c = k := by omega
      subst this
      rw [List.set_append_right _ _ (by rw [colL_len]; omega), colL_len, show c * 4 + 2 - 4 * c = 2 by omega]
      rw [colL_congr dr pa ad (fun j => if j = c then v else C j) C c (fun j hj => by rw [if_neg (by omega)])]
      congr 1
      unfold colC; simp
/-- counts in the midst of a row -/
def midC (cn : Nat → Nat) (c : Nat) : Nat → Nat := fun j => cn j + if j < c then 1 else 0
theorem midC_zero (cn : Nat → Nat) : midC cn 0 = cn := by funext j; simp [midC]
theorem midC_at (cn : Nat → Nat) (c : Nat) : midC cn c c = cn c := by simp [midC]
theorem midC_next (cn : Nat → Nat) (c : Nat) : (fun j => if j = c then cn c + 1 else midC cn c j) = midC cn (c + 1) := by
  funext j
  unfold midC
  by_cases h : j = c
  · subst h; simp
  · rw [if_neg h]
    by_cases h2 : j < c
    · rw [if_pos h2, if_pos (by omega)]
    · rw [if_neg h2, if_neg (by omega)]
set_option maxHeartbeats 1000000 in
theorem GeomColumns_ok (dr pa ad ct wd : Nat) (h1 : 2 ≤ dr) (h2 : dr ≤ 8) (h3 : 1 ≤ pa) (h4 : pa ≤ 3) (h5 : dr = pa + wd) (h6 : 1 ≤ wd) (h7 : ad ≤ 65536) (h8 : 1 ≤ ct) (h9 : ct ≤ 32) (w : World) :
    Calls Try.prog 37 #[.int .i64 dr, .int .i64 pa, .int .i64 ad, .int .i64 ct] w fun e w' => ∃ v, e = .returned (.tuple #[v, .int .i64 0]) ∧ w'.ownsRow w.heap.size 63 4 v (numP dr pa ct wd) (colL dr pa ad (cntC pa ct wd) (numP dr pa ct wd)) ∧ New w w' := by
  have hm' : (!decide (mayP dr pa)) = false := by rw [decide_eq_true (by unfold mayP; omega)]; rfl
  obtain ⟨i0, hi0, hz0, hz1, hz2⟩ := info_parts infoCol
  have hwd : (dr : Int) - (pa : Int) = (wd : Int) := by omega
  have h50 := Lib.hid h5
  clear h5
  have hdw : wd ≤ 7 := by have := h50.out; omega
  have e1 : IntKind.i64.wrap ((dr : Int) - (pa : Int)) = (wd : Int) := by rw [hwd]; exact IntWalk.i64_in _ (by omega)
  obtain ⟨N, hN⟩ : ∃ N, Hid (N = numP dr pa ct wd) := ⟨_, (rfl : _ = _)⟩
  obtain ⟨C, hC⟩ : ∃ C, Hid (C = cntC pa ct wd) := ⟨_, (rfl : _ = _)⟩
  obtain ⟨cn, hcn⟩ : ∃ cn, Hid (cn = cnR pa ct wd) := ⟨_, (rfl : _ = _)⟩
  obtain ⟨nr, hnr⟩ : ∃ nr, Hid (nr = nrR pa ct wd) := ⟨_, (rfl : _ = _)⟩
  have hfin : Hid (∀ r, ct ≤ r * wd → (r = 0 ∨ ∃ r', r = r' + 1 ∧ r' * wd < ct) → nr 0 = N ∧ ∀ j, j < dr → cn r j = C j) := fun r g1 g2 => by
    rw [hnr.out, hN.out, hcn.out, hC.out, h50.out]
    exact rows_end pa ct wd r h6 h8 g1 g2
  have hcn0 : Hid (∀ j, cn 0 j = 0) := fun j => by rw [hcn.out]; rfl
  have hcnS : Hid (∀ r, midC (cn r) (nr r) = cn (r + 1)) := fun r => by rw [hcn.out, hnr.out]; rfl
  have hnr1 : Hid (∀ r, nr r = pa + min wd (ct - r * wd)) := fun r => by rw [hnr.out]; rfl
  have hnrle : Hid (∀ r, nr r ≤ nr 0 ∧ nr r ≤ dr) := fun r => by rw [hnr1.out, hnr1.out, h50.out]; simp; omega
  rw [← hN.out, ← hC.out]
  go_enter Try.func37, Try.ntmps37
  go_wp2_with (first | (go_at_call 55; refine (badShape_any _ _ _).mono ?_; rintro e w' ⟨rfl, rfl⟩))
  go_loopw [11, 10] (fun c o wr => ∃ r : Nat, c = .int .i64 r ∧ r ≤ 32 ∧ (r = 0 ∨ ∃ r', r = r' + 1 ∧ r' * wd < ct) ∧ wr.ownsRow w.heap.size 63 4 o (if r = 0 then 0 else nr 0) (colL dr pa ad (cn r) (if r = 0 then 0 else nr 0)) ∧ New w wr) (fun c _ _ => 40 - (intOf c).toNat)
  case atStart => exact ⟨0, rfl, by omega, .inl rfl, World.ownsRow_nil _ _ _ _, New.refl _⟩
  case round =>
    obtain ⟨r, rfl, hr, hrr, hown, hnw⟩ := hrel
    obtain ⟨P, hP⟩ : ∃ P, Hid (P = r * wd) := ⟨_, (rfl : _ = _)⟩
    have hm : (r : Int) * (wd : Int) = (P : Int) := by rw [hP.out]; push_cast; rfl
    have hPl : P ≤ 32 * 7 := by rw [hP.out]; exact Nat.mul_le_mul hr hdw
    by_cases hlt : P < ct
    · have hrr1 := Lib.hid hrr
      clear hrr
      have hrlt : r < 32 := by
        have := Nat.mul_le_mul_left r h6
        have := hP.out
        omega
      obtain ⟨n, hn⟩ : ∃ n, Hid (n = nr r) := ⟨_, (rfl : _ = _)⟩
      have hmin : Hid (n = pa + min wd (ct - P)) := by rw [hn.out, hnr1.out, ← hP.out]; exact (rfl : _ = _)
      have hnd : n ≤ dr := by rw [hn.out]; exact (hnrle.out r).2
      go_upto_region 7 with fail
      go_cut [12] (fun s wx => s = .int .i64 n ∧ wx = wr)
      case first =>
        go_wp2
        all_goals go_meet
        all_goals refine ⟨intv ?_, rfl⟩
        all_goals have := hmin.out
        all_goals omega
      case rest =>
        obtain ⟨rfl, rfl⟩ := hcut
        obtain ⟨W0, hW0⟩ : ∃ W0, W0 = wc := ⟨_, rfl⟩
        subst hW0
        obtain ⟨cr, hcr⟩ : ∃ cr, Hid (cr = cn r) := ⟨_, (rfl : _ = _)⟩
        obtain ⟨M, hM⟩ : ∃ M : Nat → Nat, Hid (M = fun c => if r = 0 then c else nr 0) := ⟨_, (rfl : _ = _)⟩
        have hM1 : Hid (∀ c, c < n → r ≠ 0 → c < M c ∧ M (c + 1) = M c) := fun c h0 h => by
          rw [hM.out]; simp only [if_neg h]; have := (hnrle.out r).1; rw [← hn.out] at this; exact ⟨by omega, by trivial⟩
        have hM2 : Hid (∀ c, r = 0 → M c = c) := fun c h => by rw [hM.out]; simp only [if_pos h]
        have hcs : Hid (∀ C k, colL dr pa ad C (k + 1) = colL dr pa ad C k ++ colC dr pa ad C k) := fun C k => colL_succ _ _ _ C k
        have hcst : Hid (∀ C k c v, c < k → (colL dr pa ad C k).set (c * 4 + 2) (.int .i64 (v : Nat)) = colL dr pa ad (fun j => if j = c then v else C j) k) := fun C k c v => colL_set dr pa ad C c v k
        have hcat : Hid (∀ C k c, c < k → (colL dr pa ad C k)[c * 4 + 2]? = some (.int .i64 (C c : Nat))) := fun C k c h => (colL_at dr pa ad C k c 2 h (by omega)).trans rfl
        have hcrle : Hid (∀ j, cr j ≤ r) := fun j => by rw [hcr.out, hcn.out]; exact cnR_le _ _ _ r j
        have hM8 : Hid (∀ c, c ≤ n → M c ≤ dr) := fun c h => by
          rw [hM.out]; by_cases h0 : r = 0
          · simp only [if_pos h0]; omega
          · simp only [if_neg h0]; exact (hnrle.out 0).2
        have hr0 : Hid (r = 0 → ∀ j, cr j = 0) := fun h j => by rw [hcr.out, h]; exact hcn0.out j
        have hown0 : W0.ownsRow w.heap.size 63 4 u10 (M 0) (colL dr pa ad (midC cr 0) (M 0)) := by
          rw [midC_zero, hM.out, hcr.out]; exact hown
        clear hown hm e1
        go_wp2
        go_loopw [13, 10] (fun k o wr => ∃ c : Nat, k = .int .i64 c ∧ c ≤ n ∧ wr.ownsRow w.heap.size 63 4 o (M c) (colL dr pa ad (midC cr c) (M c)) ∧ New w wr) (fun c _ _ => n - (intOf c).toNat)
        case atStart => exact ⟨0, rfl, by omega, hown0, hnw⟩
        case round =>
          obtain ⟨c, rfl, hc, hown, hnw⟩ := hrel
          by_cases hclt : c < n
          · go_upto_if 62 with fail
            go_cut [10] (fun o wx => ∃ L, c < L ∧ L = M (c + 1) ∧ wx.ownsRow w.heap.size 63 4 o L (colL dr pa ad (midC cr c) L) ∧ New w wx)
            case first =>
              by_cases h0 : r = 0
              · subst h0
                have hMc := hM2.out c rfl
                have hMs := Lib.hid (hM2.out (c + 1) rfl)
                rw [hMc] at hown
                clear hMc
                obtain ⟨x, hx⟩ : ∃ x, Hid (x = (ad + c) % dr) := ⟨_, (rfl : _ = _)⟩
                obtain ⟨y, hy⟩ : ∃ y, Hid (y = (ad + c) / dr) := ⟨_, (rfl : _ = _)⟩
                have e1 : IntKind.i64.wrap ((ad : Int) + (c : Int)) = (ad : Int) + (c : Int) := IntWalk.i64_in _ (by omega)
                have hyl : y ≤ ad + c := by rw [hy.out]; exact Nat.div_le_self _ _
                have e5 : ((ad : Int) + (c : Int)) % (dr : Int) = (x : Int) := by rw [hx.out]; push_cast; rfl
                have e6 : ((ad : Int) + (c : Int)) / (dr : Int) = (y : Int) := by rw [hy.out]; push_cast; rfl
                have e3 : ((ad : Int) + (c : Int)).tmod (dr : Int) = (x : Int) := by rw [Int.tmod_eq_emod_of_nonneg (by omega), e5]
                have e4 : ((ad : Int) + (c : Int)).tdiv (dr : Int) = (y : Int) := by rw [Int.tdiv_eq_ediv_of_nonneg (by omega), e6]
                have e2 : IntKind.i64.wrap (y : Int) = (y : Int) := IntWalk.i64_in _ (by omega)
                have hd0 : (dr : Int) ≠ 0 := by omega
                have hd1 : ((dr : Int) == 0) = false := by simp; omega
                have hd2 : ¬ (dr : Int) = 0 := by omega
                have hd3 : ¬ dr = 0 := by omega
                have hd4 : IntKind.i64.wrap (x : Int) = (x : Int) := IntWalk.i64_in _ (by have := Nat.mod_lt (ad + c) (show 0 < dr by omega); rw [← hx.out] at this; omega)
                go_wp2
                go_region_law (refine step_append_lies _ (by rfl) _ _ _ (by rfl) w.heap.size 63 i0 _ 4 32 Try.underlying55 hi0 hz0 hz1 hz2 rfl (by decide) _ c (colL dr pa ad (midC cr c) c) (by rfl) ((hown.alloc _).drew) ⟨wr.heap.size, 0, none⟩ 1 1 [.int .i64 x, .int .i64 y, .int .i64 0, .bool (decide (c < pa))] (by rfl) (by rfl) (World.news_of_block (cs := #[.int .i64 _, .int .i64 _, .int .i64 _, .bool _]) (t := 63) (fr := (0, 0)) (heap_alloc_new wr _)) (by simp [Value.oneCell']) (by omega) (by unfold maxLen; omega) (by omega) (by have := hnw.size; simp; omega) (wr.heap.size + 1) (by simp) ?_; intro gg cap1 w1 hown1 hgrow hat hlt1)
                go_wp2_with fail
                go_meet
                have hrow : colC dr pa ad (midC cr c) c = [.int .i64 x, .int .i64 y, .int .i64 0, .bool (decide (c < pa))] := by
                  unfold colC; rw [midC_at, hr0.out (by trivial) c, hx.out, hy.out]; rfl
                rw [← hrow, ← hcs.out] at hown1
                exact ⟨c + 1, by omega, hMs.out.symm, hown1, hnw.append hgrow (fun g hg => (hown.lt g hg).1)⟩
              · have hMc := hM1.out c hclt h0
                have hMc1 := Lib.hid hMc
                have hb : ((r : Int) == 0) = false := by simp; omega
                clear hMc
                go_wp2
                go_meet
                exact ⟨M c, hMc1.out.1, hMc1.out.2.symm, hown, hnw⟩
            case rest =>
              obtain ⟨L, hcL, hLM, hown', hnw'⟩ := hcut
              obtain ⟨g, cap, rfl, hg1, hg2⟩ := hown'.form (by omega)
              have hLM0 := Lib.hid hLM
              obtain ⟨z, hz⟩ : ∃ z, Hid (z = cr c) := ⟨_, (rfl : _ = _)⟩
              have hzl : z ≤ 32 := by rw [hz.out]; exact Nat.le_trans (hcrle.out c) hr
              have c2 := hown'.cellAt (c * 4 + 2) (by omega)
              rw [hcat.out _ _ _ hcL, midC_at, ← hz.out] at c2
              have f2 := hown'.frozenAt (c * 4 + 2)
              have hst := (hown'.stored (c * 4 + 2) (.int .i64 ((z + 1 : Nat) : Int))).1
              rw [hcst.out _ _ _ _ hcL, hz.out, midC_next, ← hz.out] at hst
              have hst1 := Lib.hid hst
              clear hst
              have i0 : (0 : Int) ≤ (c : Int) := by omega
              have i1 : (c : Int) < (L : Int) := by omega
              have hLs : L ≤ 8 := by rw [hLM]; have := hM8.out (c + 1) (by omega); omega
              have hcs1 : Hid (((z + 1 : Nat) : Int) = (z : Int) + 1) := by push_cast; exact (rfl : _ = _)
              rw [hcs1.out] at hst1
              clear hLM hown'
              go_wp2
              go_roundw
              case rel => exact ⟨c + 1, by go_num, by omega, by rw [← hLM0.out]; exact hst1.out, hnw'.set (p := ⟨g, c * 4 + 2, none⟩) hg1 _⟩
              case measure => simp [intOf]; omega
          · have hin : c = n := by omega
            subst hin
            have hMn : Hid (M c = nr 0) := by
              rw [hM.out]
              by_cases h : r = 0
              · simp only [if_pos h]; rw [hn.out, h]; exact (rfl : _ = _)
              · simp only [if_neg h]; exact Lib.hid trivial
            have hmid : Hid (midC cr c = cn (r + 1)) := by rw [hcr.out, hn.out]; exact hcnS.out r
            rw [hMn.out, hmid.out] at hown
            have hown1 := Lib.hid hown
            clear hown
            go_wp2
            go_roundw
            case rel => exact ⟨r + 1, by go_num, by omega, .inr ⟨r, rfl, by rw [← hP.out]; exact hlt⟩, hown1.out, hnw⟩
            case measure => simp [intOf]; omega
    · have hf := hfin.out r (by rw [← hP.out]; omega) hrr
      have hr0 : r ≠ 0 := by rintro rfl; have := hP.out; omega
      rw [if_neg hr0, hf.1] at hown
      have hNd : N ≤ dr := by rw [← hf.1]; exact (hnrle.out 0).2
      rw [colL_congr dr pa ad (cn r) C N (fun j hj => hf.2 j (by omega))] at hown
      have hown1 := Lib.hid hown
      clear hown hf hrr
      go_wp2
      go_ret2
      exact ⟨_, rfl, hown1.out, hnw⟩
end Go.Proofs.Ytjmjnodaohbpfaa.geom
