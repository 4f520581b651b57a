/-
  Contract of stripe.shaped.
-/
import Derived.Test.YtjmjnodaohbpfaaStripeKit
namespace Go.Proofs.Ytjmjnodaohbpfaa.stripe
open Go.ChangeShapes Go.WideShapes Go.ChangeAt Go.RowKit Go.Proofs.Ytjmjnodaohbpfaa.kit Go.Proofs.Ytjmjnodaohbpfaa.geom Go.Deep
set_option linter.unusedVariables false
set_option maxRecDepth 100000

def zeroB : Array Value := #[.slice none 0 0, .int .i64 0, .int .i64 0]
theorem zeroB_one : ∀ u ∈ zeroB, u.oneCell' = true := by unfold zeroB; simp [Value.oneCell']
theorem shaped_len (d p a : Int) (n : Nat) (w : World) (hn : n ≤ maxLen) (h : ¬ (1 ≤ n ∧ n ≤ 4096)) :
    Calls Try.prog 32 #[.int .i64 d, .int .i64 p, .int .i64 a, .int .i64 n] w fun e w' => e = .returned (.tuple #[.agg zeroB, .int .i64 1]) ∧ New w w' := by
  have hd : decide (1 ≤ n ∧ n ≤ 4096) = false := decide_eq_false h
  have hx0 : Blk (w.alloc (.cells zeroB 57)) w.heap.size 57 zeroB := Blk.fresh _ _ _
  have hx := Lib.hid hx0
  clear h hx0
  go_enter Try.func32, Try.ntmps32
  go_wp2_with fail
  refine (sized_any n hn _).mono ?_
  rw [hd]
  rintro e w1 ⟨rfl, rfl⟩
  go_wp2_with (refine wpList_store_row rfl 57 _ _ rfl w.heap.size zeroB rfl rfl 57 zeroB hx.out (by kernel_rfl) rfl (by unfold zeroB; simp [Value.oneCell']) ?_)
  exact bodyPost_ret (v := .tuple #[.agg zeroB, .int .i64 1]) (results_cell_slot Try.results32 _ _ w.heap.size 57 zeroB _ rfl (hx.out.row zeroB) Try.underlying57 rfl (by kernel_rfl)) rfl ⟨rfl, ((New.refl w).alloc _).row (Nat.le_refl _) _⟩
theorem shaped_geom (d p a : Int) (n : Nat) (w : World) (h : 1 ≤ n ∧ n ≤ 4096) (hg : ¬ (mayP d p ∧ cntP ((n + 127) / 128 : Nat) ∧ adrP a)) :
    Calls Try.prog 32 #[.int .i64 d, .int .i64 p, .int .i64 a, .int .i64 n] w fun e w' => e = .returned (.tuple #[.agg zeroB, .int .i64 2]) ∧ New w w' := by
  have hd : decide (1 ≤ n ∧ n ≤ 4096) = true := decide_eq_true h
  have hx0 : Blk (w.alloc (.cells zeroB 57)) w.heap.size 57 zeroB := Blk.fresh _ _ _
  have hx := Lib.hid hx0
  have hnm : n ≤ maxLen := by unfold maxLen; omega
  obtain ⟨q, hq⟩ : ∃ q, Hid (q = (n + 127) / 128) := ⟨_, rfl⟩
  have hsec := Lib.hid (fun w => sectors_any n h.2 w)
  rw [← hq.out] at hg hsec
  have hg0 := Lib.hid hg
  clear h hx0 hg
  go_enter Try.func32, Try.ntmps32
  go_wp2_with fail
  refine (sized_any n hnm _).mono ?_
  rw [hd]
  rintro e w1 ⟨rfl, rfl⟩
  go_wp2_with fail
  refine (hsec.out _).mono ?_
  rintro e w1 ⟨rfl, rfl⟩
  go_wp2_with fail
  refine (Columns_bad d p a q _ hg0.out).mono ?_
  rintro e w2 ⟨rfl, hn2⟩
  have hx2 := Lib.hid (hx.out.new hn2)
  have hN2 : New w w2 := New.of_alloc hn2
  clear hn2
  go_wp2_with (refine wpList_store_row rfl 57 _ _ rfl w.heap.size zeroB rfl rfl 57 zeroB hx2.out (by kernel_rfl) rfl (by unfold zeroB; simp [Value.oneCell']) ?_)
  exact bodyPost_ret (v := .tuple #[.agg zeroB, .int .i64 2]) (results_cell_slot Try.results32 _ _ w.heap.size 57 zeroB _ rfl (hx2.out.row zeroB) Try.underlying57 rfl (by kernel_rfl)) rfl ⟨rfl, hN2.row (Nat.le_refl _) _⟩
set_option maxHeartbeats 1000000 in
theorem shaped_ok (dr pa ad n wd ct : Nat) (h1 : 2 ≤ dr) (h2 : dr ≤ 8) (h3 : 1 ≤ pa) (h4 : pa ≤ 3) (h5 : dr = pa + wd) (h6 : 1 ≤ wd) (h7 : ad ≤ 65536) (h : 1 ≤ n ∧ n ≤ 4096) (hct : ct = (n + 127) / 128) (w : World) :
    Calls Try.prog 32 #[.int .i64 dr, .int .i64 pa, .int .i64 ad, .int .i64 n] w fun e w' => (∃ A c, e = .returned (.tuple #[.agg #[.slice A (numP dr pa ct wd) c, .int .i64 pa, .int .i64 (128 * cntC pa ct wd 0 : Nat)], .int .i64 0]) ∧
      w'.ownsRow (w.heap.size + 1) 63 4 (.slice A (numP dr pa ct wd) c) (numP dr pa ct wd) (colL dr pa ad (cntC pa ct wd) (numP dr pa ct wd))) ∧ New w w' := by
  have hd : decide (1 ≤ n ∧ n ≤ 4096) = true := decide_eq_true h
  have hx0 : Blk (w.alloc (.cells zeroB 57)) w.heap.size 57 zeroB := Blk.fresh _ _ _
  have hx := Lib.hid hx0
  have hnm : n ≤ maxLen := by unfold maxLen; omega
  have hsec := Lib.hid (fun w => sectors_any n h.2 w)
  have hc1 : 1 ≤ ct := by omega
  have hc2 : ct ≤ 32 := by omega
  have hcol := Lib.hid (fun w => Columns_ok dr pa ad ct wd h1 h2 h3 h4 h5 h6 h7 hc1 hc2 w)
  have hnum := numP_eq (pa := pa) h6 hc1
  have hdc := dc_pos h6 hc1
  have hdl := dc_le h6 hc1
  rw [← h5] at hnum
  have hc0 := cnt_max (pa := pa) h6 hc1 hc2 h3
  rw [← hct] at hsec
  obtain ⟨num, hnn⟩ : ∃ num, Hid (num = numP dr pa ct wd) := ⟨_, rfl⟩
  rw [← hnn.out] at hcol hnum ⊢
  have hn8 : num ≤ 8 := by omega
  have hn1 : 1 ≤ num := by omega
  obtain ⟨q, hq⟩ : ∃ q, Hid (q = cntC pa ct wd 0) := ⟨_, rfl⟩
  rw [← hq.out] at hc0 ⊢
  clear h hx0 h5 hct hnum hdc hdl
  go_enter Try.func32, Try.ntmps32
  go_wp2_with fail
  refine (sized_any n hnm _).mono ?_
  rw [hd]
  rintro e w1 ⟨rfl, rfl⟩
  go_wp2_with fail
  refine (hsec.out _).mono ?_
  rintro e w1 ⟨rfl, rfl⟩
  go_wp2_with fail
  refine (hcol.out _).mono ?_
  rintro e w2 ⟨v, rfl, hown, hn2⟩
  have hx2 := Lib.hid (hx.out.new hn2)
  have hN2 : New w w2 := New.of_alloc hn2
  obtain ⟨A, c, rfl, _, _, hA, hcell⟩ := own_open hown
  obtain ⟨g, rfl, hg1, hg⟩ := hA (by omega)
  have hz := hcell g rfl (0 * 4 + 2) _ (by rw [colL_at dr pa ad _ num 0 2 (by omega) (by omega)]; rfl)
  rw [← hq.out] at hz
  simp at hz hg1
  have hown2 : w2.ownsRow (w.heap.size + 1) 63 4 (.slice (some ⟨g, 0, none⟩) num c) num (colL dr pa ad (cntC pa ct wd) num) := by simpa using hown
  have hrow2 := fun cs : Array Value => hown2.kept (w' := w2.setRow w.heap.size cs) (row := some w.heap.size) ⟨rfl, rfl, rfl, by simp, fun k _ hk => setRow_other w2 w.heap.size k _ (fun e => hk (by rw [e]))⟩ (.inr (by simp [Value.ownBlock]; omega))
  replace hrow2 := Lib.hid hrow2
  have hn0 : 0 < num := by omega
  have hn0i : (0 : Int) < (num : Int) := by omega
  have hmul : (q : Int) * 128 = ((128 * q : Nat) : Int) := by omega
  clear hn2 hA hcell hown
  go_wp2_with (refine wpList_store_row rfl 57 _ _ rfl w.heap.size #[.slice (some ⟨g, 0, none⟩) num c, .int .i64 pa, .int .i64 (128 * q : Nat)] rfl rfl 57 zeroB hx2.out (by kernel_rfl) rfl (by simp [Value.oneCell']) ?_)
  exact bodyPost_ret (v := .tuple #[.agg #[.slice (some ⟨g, 0, none⟩) num c, .int .i64 pa, .int .i64 (128 * q : Nat)], .int .i64 0]) (results_cell_slot Try.results32 _ _ w.heap.size 57 #[.slice (some ⟨g, 0, none⟩) num c, .int .i64 pa, .int .i64 (128 * q : Nat)] _ rfl (hx2.out.row _) Try.underlying57 rfl (by kernel_rfl)) rfl
    ⟨⟨_, c, rfl, hrow2.out _⟩, hN2.row (Nat.le_refl _) _⟩
end Go.Proofs.Ytjmjnodaohbpfaa.stripe
