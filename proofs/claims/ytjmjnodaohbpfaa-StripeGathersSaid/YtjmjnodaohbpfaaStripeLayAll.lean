import Derived.Test.YtjmjnodaohbpfaaRowK
import Derived.Test.YtjmjnodaohbpfaaGeomColSame
import Derived.Test.YtjmjnodaohbpfaaStripePlain
import Derived.Test.YtjmjnodaohbpfaaParRefEnc
import Derived.Lib.SliceRun
import Derived.Deep.RegionHeld3
/-
  Contracts of the small functions of package stripe, and of slices.Clone.
-/
namespace Go.Proofs.Ytjmjnodaohbpfaa.stripe
open Go.ChangeShapes Go.WideShapes Go.ChangeAt Go.RowKit Go.Proofs.Ytjmjnodaohbpfaa.kit Go.Proofs.Ytjmjnodaohbpfaa.geom Go.Deep
set_option linter.unusedVariables false
set_option maxRecDepth 100000

theorem infoU8 : (Try.prog.info? 5).map (fun i => (i.zero, i.size, i.bytes)) = some (some (.int .u8 0), 1, 1) := by kernel_rfl
theorem sectors_any (n : Nat) (hn : n ≤ 4096) (w : World) : Calls Try.prog 33 #[.int .i64 n] w fun e w' => e = .returned (.int .i64 ((n + 127) / 128 : Nat)) ∧ w = w' := by
  go_enter Try.func33, Try.ntmps33
  go_wp2
  go_ret
  exact ⟨ret1 (by omega), rfl⟩
theorem sized_any (n : Nat) (hn : n ≤ maxLen) (w : World) : Calls Try.prog 53 #[.int .i64 n] w fun e w' => e = .returned (.bool (decide (1 ≤ n ∧ n ≤ 4096))) ∧ w = w' := by
  unfold maxLen at hn
  by_cases h : 1 ≤ n ∧ n ≤ 4096
  · have h1 : (1 : Int) ≤ (n : Int) := by omega
    have h2 : (n : Int) ≤ 4096 := by omega
    rw [decide_eq_true h]
    go_enter Try.func53, Try.ntmps53
    go_wp2
    go_ret
    exact ⟨rfl, rfl⟩
  · rw [decide_eq_false h]
    by_cases h1 : (1 : Int) ≤ (n : Int)
    · have h2 : ¬ (n : Int) ≤ 4096 := by omega
      clear h
      go_enter Try.func53, Try.ntmps53
      go_wp2
      go_ret
      exact ⟨rfl, rfl⟩
    · clear h
      go_enter Try.func53, Try.ntmps53
      go_wp2
      go_ret
      exact ⟨rfl, rfl⟩
theorem Clone_any (b off n c : Nat) (f : Nat → Nat) (w : World) (h : ∀ j, j < n → w.cell? ⟨b, off + j, none⟩ = some (.int .u8 (f j : Nat))) (hn : 0 < n) (hn2 : n ≤ 8192) (hb : b < w.heap.size) :
    Calls Try.prog 34 #[.slice (some ⟨b, off, none⟩) n c] w fun e w' => (∃ g cap, e = .returned (.slice (some ⟨g, 0, none⟩) n cap) ∧ (n ≤ cap ∧ cap ≤ maxLen) ∧ RowK 5 .u8 w' g n f ∧ w.heap.size ≤ g) ∧ New w w' := by
  obtain ⟨i0, hi0, hz0, hz1, hz2⟩ := info_parts infoU8
  have hsrc : Hid (∀ j u, (numL .u8 f n)[j]? = some u → (w.alloc (.cells #[] 5)).cell? ((⟨b, off, none⟩ : Addr).add j) = some u) := fun j u hu => by
    have := numL_src h j u hu
    rw [add_cell] at this ⊢
    exact (((New.refl w).alloc _).cell (p := ⟨b, off + j, none⟩) hb).trans this
  have hone := Lib.hid (numL_one .u8 f n)
  have hlen : Hid ((numL .u8 f n).length = n) := numL_len .u8 f n
  have hlit := World.ownsRow_lit (e := 5) (size := 1) w #[] 0 (Nat.le_refl _) (by unfold maxLen; omega) rfl
  have hnb := fun w => Lib.run_eql_slice_nil (P := Try.prog) w 32 5 (some ⟨b, off, none⟩) n c 0 0 Try.underlying32
  clear h
  go_enter Try.func34, Try.ntmps34
  go_wp2_with (at_builtin; refine wpList_append_own _ rfl _ _ 32 rfl w.heap.size 5 i0 _ 1 1 Try.underlying32 hi0 hz0 hz1 hz2 rfl (by decide) (Value.slice (some ⟨w.heap.size, 0, none⟩) 0 0) 0 [] rfl hlit ⟨b, off, none⟩ n c (numL .u8 f n) rfl (by rw [hlen.out]; omega) hsrc.out hone.out (by unfold maxLen; omega) (by omega) (by simp) ?_; intro v3 w3 hown3 hgrow hnil; obtain ⟨g3, c3, rfl, hg3a, hg3b⟩ := hown3.form (by omega))
  have hgA : (w.alloc (.cells #[] 5)).grownBy w3 (some w.heap.size) := hgrow
  have hN : New w w3 := (New.refl w).append' hgA (fun g hg => by cases hg; exact Nat.le_refl _)
  rw [List.nil_append, Nat.zero_add] at hown3
  have hr := RowK.of_own hown3
  have hcap := (own_open hown3)
  obtain ⟨_, _, he, hle, hlm, _⟩ := hcap
  cases he
  have hfin : Hid (RowK 5 .u8 w3 g3 n f ∧ w.heap.size ≤ g3 ∧ (n ≤ c3 ∧ c3 ≤ maxLen) ∧ New w w3) := ⟨hr, hg3a, ⟨hle, hlm⟩, hN⟩
  clear hgrow hnil hown3 hr
  go_ret
  exact ⟨⟨g3, c3, rfl, hfin.out.2.2.1, hfin.out.1, hfin.out.2.1⟩, hfin.out.2.2.2⟩
theorem size_any (LA : Option Addr) (num cl base dr pa ad c Lg p : Nat) (C : Nat → Nat) (w : World) (h : w.ownsRow base 63 4 (.slice LA num cl) num (colL dr pa ad C num)) (hc : c < num) (hn : num ≤ 8) (hC : C c ≤ 32) :
    Calls Try.prog 35 #[.agg #[.slice LA num cl, .int .i64 p, .int .i64 Lg], .int .i64 c] w fun e w' => e = .returned (.int .i64 (128 * C c : Nat)) ∧ New w w' := by
  obtain ⟨A, c', he, _, _, hA, hcell⟩ := own_open h
  cases he
  obtain ⟨g, rfl, _, hg⟩ := hA (by omega)
  have hx := hcell g rfl (c * 4 + 2) _ (by rw [colL_at dr pa ad C num c 2 hc (by omega)]; rfl)
  have hx2 := (((New.refl w).alloc (.cells #[.slice (some ⟨g, 0, none⟩) num cl, .int .i64 p, .int .i64 Lg] 57)).cell (p := ⟨g, c * 4 + 2, none⟩) hg).trans hx
  have hci : (c : Int) < (num : Int) := by omega
  obtain ⟨q, hq⟩ : ∃ q, Hid (q = C c) := ⟨_, rfl⟩
  rw [← hq.out] at hx2 hC ⊢
  clear hA hcell hx h
  go_enter Try.func35, Try.ntmps35
  go_wp2
  go_ret
  exact ⟨ret1 (by omega), (New.refl w).alloc _⟩
theorem filled_any (LA : Option Addr) (num cl p Lg b n c : Nat) (f : Nat → Nat) (w : World) (h : RowK 5 .u8 w b n f) (hn : n ≤ Lg) (hL : Lg ≤ 4096) :
    Calls Try.prog 36 #[.agg #[.slice LA num cl, .int .i64 p, .int .i64 Lg], .slice (some ⟨b, 0, none⟩) n c] w fun e w' => (∃ g, e = .returned (.slice (some ⟨g, 0, none⟩) Lg Lg) ∧ RowK 5 .u8 w' g Lg (fun k => if k < n then f k else 0) ∧ w.heap.size ≤ g) ∧ New w w' := by
  have hmk := run_make_row' (P := Try.prog) 32 5 (.int .u8 0) 1 Try.underlying32 infoU8 rfl .i64 .i64 Lg (by omega) (by omega)
  obtain ⟨bx, hbx⟩ : ∃ bx : Obj, bx = .cells #[.slice LA num cl, .int .i64 p, .int .i64 Lg] 57 := ⟨_, rfl⟩
  have hN1 : New w (w.alloc bx) := (New.refl w).alloc _
  have hr2 : ∀ j, j < n → ((w.alloc bx).alloc (.cells (madeCells #[.int .u8 0] Lg) 5)).cell? ⟨b, 0 + j, none⟩ = some (.int .u8 (f j : Nat)) := fun j hj => by
    rw [Nat.zero_add]
    exact (h.new (hN1.alloc _)).cell hj
  have hmade : ((w.alloc bx).alloc (.cells (madeCells #[.int .u8 0] Lg) 5)).rowIs (w.heap.size + 1) 5 Lg (fun _ => .int .u8 0) := by
    have := World.rowIs_made (w.alloc bx) (.int .u8 0) Lg 5
    simpa using this
  rw [hbx] at hmade hr2 hN1
  replace hmade := Lib.hid hmade
  replace hr2 := Lib.hid hr2
  have hszI : Hid ((Try.prog.info? 5).map (·.size) = some 1) := by
    show _ = _
    kernel_rfl
  have hmin : Hid (n = Nat.min n Lg) := (Nat.min_eq_left hn).symm
  clear h hbx bx
  go_enter Try.func36, Try.ntmps36
  go_wp2_with (with_reducible refine wpList_copy_rowIs rfl (.tmp 9) (.tmp 10) 32 32 rfl 5 Try.underlying32 hszI.out (w.heap.size + 1) 0 Lg 5 _ hmade.out (some ⟨w.heap.size + 1, 0, none⟩) (some ⟨b, 0, none⟩) Lg Lg n c n (fun j => .int .u8 (f j : Nat)) rfl rfl hmin.out (fun _ => ⟨rfl, b, 0, rfl, hr2.out⟩) (by omega) (fun j _ => rfl) ?_; intro w2 hr3 hg2)
  have hN2 : New w w2 := (hN1.alloc _).grown1 hg2 (by omega)
  have hrow : Hid (RowK 5 .u8 w2 (w.heap.size + 1) Lg (fun k => if k < n then f k else 0)) := RowK.of_rowIs hr3.out (Nat.le_refl _) fun j hj => by
    unfold cpF
    by_cases e : j < n
    · rw [if_pos ⟨Nat.zero_le _, by omega⟩, if_pos e]; rfl
    · rw [if_neg (by omega), if_neg e]; rfl
  go_ret
  exact ⟨⟨_, rfl, hrow.out, by omega⟩, hN2⟩
end Go.Proofs.Ytjmjnodaohbpfaa.stripe

/-
  Contract of stripe.shaped.
-/
namespace Go.Proofs.Ytjmjnodaohbpfaa.stripe
open Go.ChangeShapes Go.WideShapes Go.ChangeAt Go.RowKit Go.Proofs.Ytjmjnodaohbpfaa.kit Go.Proofs.Ytjmjnodaohbpfaa.geom Go.Deep
set_option linter.unusedVariables false
set_option maxRecDepth 100000

def zeroB : Array Value := #[.slice none 0 0, .int .i64 0, .int .i64 0]
theorem zeroB_one : ∀ u ∈ zeroB, u.oneCell' = true := by unfold zeroB; simp [Value.oneCell']
theorem shaped_len (d p a : Int) (n : Nat) (w : World) (hn : n ≤ maxLen) (h : ¬ (1 ≤ n ∧ n ≤ 4096)) :
    Calls Try.prog 32 #[.int .i64 d, .int .i64 p, .int .i64 a, .int .i64 n] w fun e w' => e = .returned (.tuple #[.agg zeroB, .int .i64 1]) ∧ New w w' := by
  have hd : decide (1 ≤ n ∧ n ≤ 4096) = false := decide_eq_false h
  have hx0 : Blk (w.alloc (.cells zeroB 57)) w.heap.size 57 zeroB := Blk.fresh _ _ _
  have hx := Lib.hid hx0
  clear h hx0
  go_enter Try.func32, Try.ntmps32
  go_wp2_with fail
  refine (sized_any n hn _).mono ?_
  rw [hd]
  rintro e w1 ⟨rfl, rfl⟩
  go_wp2_with (refine wpList_store_row rfl 57 _ _ rfl w.heap.size zeroB rfl rfl 57 zeroB hx.out (by kernel_rfl) rfl (by unfold zeroB; simp [Value.oneCell']) ?_)
  exact bodyPost_ret (v := .tuple #[.agg zeroB, .int .i64 1]) (results_cell_slot Try.results32 _ _ w.heap.size 57 zeroB _ rfl (hx.out.row zeroB) Try.underlying57 rfl (by kernel_rfl)) rfl ⟨rfl, ((New.refl w).alloc _).row (Nat.le_refl _) _⟩
theorem shaped_geom (d p a : Int) (n : Nat) (w : World) (h : 1 ≤ n ∧ n ≤ 4096) (hg : ¬ (mayP d p ∧ cntP ((n + 127) / 128 : Nat) ∧ adrP a)) :
    Calls Try.prog 32 #[.int .i64 d, .int .i64 p, .int .i64 a, .int .i64 n] w fun e w' => e = .returned (.tuple #[.agg zeroB, .int .i64 2]) ∧ New w w' := by
  have hd : decide (1 ≤ n ∧ n ≤ 4096) = true := decide_eq_true h
  have hx0 : Blk (w.alloc (.cells zeroB 57)) w.heap.size 57 zeroB := Blk.fresh _ _ _
  have hx := Lib.hid hx0
  have hnm : n ≤ maxLen := by unfold maxLen; omega
  obtain ⟨q, hq⟩ : ∃ q, Hid (q = (n + 127) / 128) := ⟨_, rfl⟩
  have hsec := Lib.hid (fun w => sectors_any n h.2 w)
  rw [← hq.out] at hg hsec
  have hg0 := Lib.hid hg
  clear h hx0 hg
  go_enter Try.func32, Try.ntmps32
  go_wp2_with fail
  refine (sized_any n hnm _).mono ?_
  rw [hd]
  rintro e w1 ⟨rfl, rfl⟩
  go_wp2_with fail
  refine (hsec.out _).mono ?_
  rintro e w1 ⟨rfl, rfl⟩
  go_wp2_with fail
  refine (Columns_bad d p a q _ hg0.out).mono ?_
  rintro e w2 ⟨rfl, hn2⟩
  have hx2 := Lib.hid (hx.out.new hn2)
  have hN2 : New w w2 := New.of_alloc hn2
  clear hn2
  go_wp2_with (refine wpList_store_row rfl 57 _ _ rfl w.heap.size zeroB rfl rfl 57 zeroB hx2.out (by kernel_rfl) rfl (by unfold zeroB; simp [Value.oneCell']) ?_)
  exact bodyPost_ret (v := .tuple #[.agg zeroB, .int .i64 2]) (results_cell_slot Try.results32 _ _ w.heap.size 57 zeroB _ rfl (hx2.out.row zeroB) Try.underlying57 rfl (by kernel_rfl)) rfl ⟨rfl, hN2.row (Nat.le_refl _) _⟩
set_option maxHeartbeats 1000000 in
theorem shaped_ok (dr pa ad n wd ct : Nat) (h1 : 2 ≤ dr) (h2 : dr ≤ 8) (h3 : 1 ≤ pa) (h4 : pa ≤ 3) (h5 : dr = pa + wd) (h6 : 1 ≤ wd) (h7 : ad ≤ 65536) (h : 1 ≤ n ∧ n ≤ 4096) (hct : ct = (n + 127) / 128) (w : World) :
    Calls Try.prog 32 #[.int .i64 dr, .int .i64 pa, .int .i64 ad, .int .i64 n] w fun e w' => (∃ A c, e = .returned (.tuple #[.agg #[.slice A (numP dr pa ct wd) c, .int .i64 pa, .int .i64 (128 * cntC pa ct wd 0 : Nat)], .int .i64 0]) ∧
      w'.ownsRow (w.heap.size + 1) 63 4 (.slice A (numP dr pa ct wd) c) (numP dr pa ct wd) (colL dr pa ad (cntC pa ct wd) (numP dr pa ct wd))) ∧ New w w' := by
  have hd : decide (1 ≤ n ∧ n ≤ 4096) = true := decide_eq_true h
  have hx0 : Blk (w.alloc (.cells zeroB 57)) w.heap.size 57 zeroB := Blk.fresh _ _ _
  have hx := Lib.hid hx0
  have hnm : n ≤ maxLen := by unfold maxLen; omega
  have hsec := Lib.hid (fun w => sectors_any n h.2 w)
  have hc1 : 1 ≤ ct := by omega
  have hc2 : ct ≤ 32 := by omega
  have hcol := Lib.hid (fun w => Columns_ok dr pa ad ct wd h1 h2 h3 h4 h5 h6 h7 hc1 hc2 w)
  have hnum := numP_eq (pa := pa) h6 hc1
  have hdc := dc_pos h6 hc1
  have hdl := dc_le h6 hc1
  rw [← h5] at hnum
  have hc0 := cnt_max (pa := pa) h6 hc1 hc2 h3
  rw [← hct] at hsec
  obtain ⟨num, hnn⟩ : ∃ num, Hid (num = numP dr pa ct wd) := ⟨_, rfl⟩
  rw [← hnn.out] at hcol hnum ⊢
  have hn8 : num ≤ 8 := by omega
  have hn1 : 1 ≤ num := by omega
  obtain ⟨q, hq⟩ : ∃ q, Hid (q = cntC pa ct wd 0) := ⟨_, rfl⟩
  rw [← hq.out] at hc0 ⊢
  clear h hx0 h5 hct hnum hdc hdl
  go_enter Try.func32, Try.ntmps32
  go_wp2_with fail
  refine (sized_any n hnm _).mono ?_
  rw [hd]
  rintro e w1 ⟨rfl, rfl⟩
  go_wp2_with fail
  refine (hsec.out _).mono ?_
  rintro e w1 ⟨rfl, rfl⟩
  go_wp2_with fail
  refine (hcol.out _).mono ?_
  rintro e w2 ⟨v, rfl, hown, hn2⟩
  have hx2 := Lib.hid (hx.out.new hn2)
  have hN2 : New w w2 := New.of_alloc hn2
  obtain ⟨A, c, rfl, _, _, hA, hcell⟩ := own_open hown
  obtain ⟨g, rfl, hg1, hg⟩ := hA (by omega)
  have hz := hcell g rfl (0 * 4 + 2) _ (by rw [colL_at dr pa ad _ num 0 2 (by omega) (by omega)]; rfl)
  rw [← hq.out] at hz
  simp at hz hg1
  have hown2 : w2.ownsRow (w.heap.size + 1) 63 4 (.slice (some ⟨g, 0, none⟩) num c) num (colL dr pa ad (cntC pa ct wd) num) := by simpa using hown
  have hrow2 := fun cs : Array Value => hown2.kept (w' := w2.setRow w.heap.size cs) (row := some w.heap.size) ⟨rfl, rfl, rfl, by simp, fun k _ hk => setRow_other w2 w.heap.size k _ (fun e => hk (by rw [e]))⟩ (.inr (by simp [Value.ownBlock]; omega))
  replace hrow2 := Lib.hid hrow2
  have hn0 : 0 < num := by omega
  have hn0i : (0 : Int) < (num : Int) := by omega
  have hmul : (q : Int) * 128 = ((128 * q : Nat) : Int) := by omega
  clear hn2 hA hcell hown
  go_wp2_with (refine wpList_store_row rfl 57 _ _ rfl w.heap.size #[.slice (some ⟨g, 0, none⟩) num c, .int .i64 pa, .int .i64 (128 * q : Nat)] rfl rfl 57 zeroB hx2.out (by kernel_rfl) rfl (by simp [Value.oneCell']) ?_)
  exact bodyPost_ret (v := .tuple #[.agg #[.slice (some ⟨g, 0, none⟩) num c, .int .i64 pa, .int .i64 (128 * q : Nat)], .int .i64 0]) (results_cell_slot Try.results32 _ _ w.heap.size 57 #[.slice (some ⟨g, 0, none⟩) num c, .int .i64 pa, .int .i64 (128 * q : Nat)] _ rfl (hx2.out.row _) Try.underlying57 rfl (by kernel_rfl)) rfl
    ⟨⟨_, c, rfl, hrow2.out _⟩, hN2.row (Nat.le_refl _) _⟩
end Go.Proofs.Ytjmjnodaohbpfaa.stripe

/-
  Contract of stripe.Lay.
-/
namespace Go.Proofs.Ytjmjnodaohbpfaa.stripe
open Go.ChangeShapes Go.WideShapes Go.ChangeAt Go.RowKit Go.Proofs.Ytjmjnodaohbpfaa.kit Go.Proofs.Ytjmjnodaohbpfaa.geom Go.Proofs.Ytjmjnodaohbpfaa.par Go.Deep
set_option linter.unusedVariables false
set_option maxRecDepth 100000

theorem infoSl : (Try.prog.info? 32).map (fun i => (i.zero, i.size, i.bytes)) = some (some (.slice none 0 0), 1, 24) := by kernel_rfl
def rowsC (G C : Nat → Nat) (m k : Nat) : List Value := (List.range k).map fun i => .slice (some ⟨G i, 0, none⟩) m (C i)
theorem rowsC_succ (G C : Nat → Nat) (m k g c : Nat) : rowsC (fun i => if i = k then g else G i) (fun i => if i = k then c else C i) m (k + 1) = rowsC G C m k ++ [.slice (some ⟨g, 0, none⟩) m c] := by
  unfold rowsC
  rw [List.range_succ, List.map_append]
  congr 1
  · apply List.map_congr_left
    intro i hi
    have : i ≠ k := by have := List.mem_range.1 hi; omega
    simp [this]
  · simp
/-- the columns that are laid so far, in out -/
def outF (pa ct wd j : Nat) (G C : Nat → Nat) : Nat → Value := fun c => if pa ≤ c ∧ c < pa + j then .slice (some ⟨G (c - pa), 0, none⟩) (128 * cntC pa ct wd c) (C (c - pa)) else .slice none 0 0
structure LSt (w0 : World) (bb rb ob : Nat) (LA : Option Addr) (num cl dr pa ad ct wd Lg len : Nat) (X : Nat → Nat) (j jw : Nat) (G C Gw : Nat → Nat) (sv : Value) (w : World) : Prop where
  nw : New w0 w
  bk : Blk w bb 57 #[.slice LA num cl, .int .i64 pa, .int .i64 Lg]
  col : w.ownsRow (w0.heap.size + 1) 63 4 (.slice LA num cl) num (colL dr pa ad (cntC pa ct wd) num)
  rest : RowK 5 .u8 w rb (128 * ct) (fullX X len)
  out : w.rowIs ob 32 num (outF pa ct wd j G C)
  cols : ∀ i, i < j → RowK 5 .u8 w (G i) (128 * cntC pa ct wd (pa + i)) (fun k => fullX X len (atS ct wd i + k))
  own : w.ownsRow w0.heap.size 32 1 sv jw (rowsC Gw (fun _ => Lg) Lg jw)
  long : ∀ i, i < jw → RowK 5 .u8 w (Gw i) Lg (longX X len pa ct wd i)
  ob0 : w0.heap.size ≤ ob
  ne : sv.ownBlock ≠ some ob
  caps : ∀ i, i < j → 128 * cntC pa ct wd (pa + i) ≤ C i ∧ C i ≤ maxLen
section
variable {w0 w w' w'' : World} {bb rb ob : Nat} {LA : Option Addr} {num cl dr pa ad ct wd Lg len : Nat} {X : Nat → Nat} {j jw : Nat} {G C Gw : Nat → Nat} {sv : Value}
theorem LSt.new (h : LSt w0 bb rb ob LA num cl dr pa ad ct wd Lg len X j jw G C Gw sv w) (hn : New w w') : LSt w0 bb rb ob LA num cl dr pa ad ct wd Lg len X j jw G C Gw sv w' :=
  ⟨h.nw.next hn, h.bk.new hn, own_new h.col hn, h.rest.new hn, row_new h.out hn, fun i hi => (h.cols i hi).new hn, own_new h.own hn, fun i hi => (h.long i hi).new hn, h.ob0, h.ne, h.caps⟩
theorem LSt.cells (h : LSt w0 bb rb ob LA num cl dr pa ad ct wd Lg len X j jw G C Gw sv w) : w.cell? ⟨bb, 0, none⟩ = some (.slice LA num cl) ∧ w.cell? ⟨bb, 1, none⟩ = some (.int .i64 pa) ∧ w.cell? ⟨bb, 2, none⟩ = some (.int .i64 Lg) := by
  have h0 := h.bk.cell 0
  have h1 := h.bk.cell 1
  have h2 := h.bk.cell 2
  simp at h0 h1 h2
  exact ⟨h0, h1, h2⟩
theorem blk_ne_row {w : World} {a b : Nat} {t e : TypeId} {cs : Array Value} {n : Nat} {F : Nat → Value} (h : Blk w a t cs) (ho : w.rowIs b e n F) (hne : e ≠ t) : b ≠ a := by
  intro he
  subst he
  obtain ⟨c, hc, _⟩ := ho
  unfold Blk at h
  rw [hc] at h
  injection h with h1
  injection h1 with _ h1 _
  exact hne h1
/-- what holds as long as nothing but out is written -/
theorem LSt.far (h : LSt w0 bb rb ob LA num cl dr pa ad ct wd Lg len X j jw G C Gw sv w) (hg : w.grownBy w' (some ob)) :
    Blk w' bb 57 #[.slice LA num cl, .int .i64 pa, .int .i64 Lg] ∧ w'.ownsRow (w0.heap.size + 1) 63 4 (.slice LA num cl) num (colL dr pa ad (cntC pa ct wd) num) ∧
    RowK 5 .u8 w' rb (128 * ct) (fullX X len) :=
  ⟨h.bk.grown hg (fun he => blk_ne_row h.bk h.out (by decide) (by cases he; rfl)), h.col.kept hg (.inr (row_ne_own h.col h.out (by decide))), h.rest.grown hg (fun he => h.rest.ne_row h.out (by decide) (by cases he; rfl))⟩
/-- a column is stored in out -/
theorem LSt.store (h : LSt w0 bb rb ob LA num cl dr pa ad ct wd Lg len X j jw G C Gw sv w) (hn : New w w') {g c : Nat} (hr : RowK 5 .u8 w' g (128 * cntC pa ct wd (pa + j)) (fun k => fullX X len (atS ct wd j + k))) (hj : pa + j < num) (hcc : 128 * cntC pa ct wd (pa + j) ≤ c ∧ c ≤ maxLen) :
    LSt w0 bb rb ob LA num cl dr pa ad ct wd Lg len X (j + 1) jw (fun i => if i = j then g else G i) (fun i => if i = j then c else C i) Gw sv (w'.setCell ⟨ob, pa + j, none⟩ (.slice (some ⟨g, 0, none⟩) (128 * cntC pa ct wd (pa + j)) c)) := by
  have h2 := h.new hn
  have hg : w'.grownBy (w'.setCell ⟨ob, pa + j, none⟩ (.slice (some ⟨g, 0, none⟩) (128 * cntC pa ct wd (pa + j)) c)) (some ob) := grown_set _ _ _ _
  obtain ⟨f1, f2, f3⟩ := h2.far hg
  refine ⟨h2.nw.grown1 hg h.ob0, f1, f2, f3, ?_, fun i hi => ?_, h2.own.kept hg (.inr h.ne), fun i hi => (h2.long i hi).grown hg (fun he => (h2.long i hi).ne_row h2.out (by decide) (by cases he; rfl)), h.ob0, h.ne, fun i hi => ?_⟩
  · refine (h2.out.set (pa + j) _).congr fun i hi => ?_
    unfold outF
    by_cases e : i = pa + j
    · subst e
      rw [if_pos rfl, if_pos ⟨by omega, by omega⟩]
      simp
    · rw [if_neg e]
      by_cases e2 : pa ≤ i ∧ i < pa + j
      · rw [if_pos e2, if_pos ⟨e2.1, by omega⟩]
        simp only [if_neg (show ¬ i - pa = j by omega)]
      · rw [if_neg e2, if_neg (by omega)]
  · by_cases e : i = j
    · subst e
      simp only [if_true]
      exact hr.grown hg (fun he => hr.ne_row h2.out (by decide) (by cases he; rfl))
    · simp only [if_neg e]
      exact (h2.cols i (by omega)).grown hg (fun he => (h2.cols i (by omega)).ne_row h2.out (by decide) (by cases he; rfl))
  · by_cases e : i = j
    · subst e
      simp only [if_true]
      exact hcc
    · simp only [if_neg e]
      exact h.caps i (by omega)
/-- a long column is appended to whole -/
theorem LSt.whole (h : LSt w0 bb rb ob LA num cl dr pa ad ct wd Lg len X j jw G C Gw sv w) (hn : New w w') {g : Nat} {v2 : Value} {o : Obj} (hr : RowK 5 .u8 w' g Lg (longX X len pa ct wd jw))
    (hown : w''.ownsRow w0.heap.size 32 1 v2 (jw + 1) (rowsC Gw (fun _ => Lg) Lg jw ++ [.slice (some ⟨g, 0, none⟩) Lg Lg])) (hgr : (w'.alloc o).grownBy w'' sv.ownBlock) (hat : sv.ownBlock = v2.ownBlock ∨ v2.ownBlock = some (w'.heap.size + 1)) :
    LSt w0 bb rb ob LA num cl dr pa ad ct wd Lg len X j (jw + 1) G C (fun i => if i = jw then g else Gw i) v2 w'' := by
  have h2 := h.new (hn.alloc o)
  have hr2 := hr.new ((New.refl w').alloc o)
  have hk : ∀ (g' m : Nat) (f : Nat → Nat), RowK 5 .u8 (w'.alloc o) g' m f → RowK 5 .u8 w'' g' m f := fun g' m f hr' => hr'.grown hgr (hr'.ne_own h2.own (by decide))
  refine ⟨h2.nw.grown hgr fun g' hg' => (h2.own.lt _ hg').1, h2.bk.grown hgr (fun he => ?_), h2.col.kept hgr ?_, hk _ _ _ h2.rest, row_grown h2.out hgr h2.ne, fun i hi => hk _ _ _ (h2.cols i hi), ?_, fun i hi => ?_, h.ob0, ?_, h.caps⟩
  · rcases h2.own.2 with ⟨h0, _⟩ | ⟨g', cap, cur, h0, _, hg0, _⟩
    · rw [h0] at he; cases he
    · rw [h0] at he
      have : g' = bb := by simpa [Value.ownBlock] using he
      subst this
      have hb := h2.bk
      unfold Blk at hb
      rw [hb] at hg0
      injection hg0 with hg0
      injection hg0 with _ hg0 _
      exact absurd hg0 (by decide)
  · rcases h2.col.2 with ⟨h1, _⟩ | ⟨g2, cap2, cur2, h1, _, hg2, _⟩
    · left; rw [h1]; rfl
    · right
      intro he
      rcases h2.own.2 with ⟨h0, _⟩ | ⟨g', cap, cur, h0, _, hg0, _⟩
      · rw [h0, h1] at he; cases he
      · rw [h0, h1] at he
        have : g2 = g' := by simpa [Value.ownBlock] using he
        subst this
        rw [hg2] at hg0
        injection hg0 with hg0
        injection hg0 with _ hg0 _
        exact absurd hg0 (by decide)
  · rw [show (fun _ : Nat => Lg) = (fun i => if i = jw then Lg else (fun _ => Lg) i) by funext i; split <;> rfl, rowsC_succ]
    exact hown
  · by_cases e : i = jw
    · subst e
      simp only [if_true]
      exact hk _ _ _ hr2
    · simp only [if_neg e]
      exact hk _ _ _ (h2.long i (by omega))
  · rcases hat with h3 | h3
    · rw [← h3]; exact h.ne
    · rw [h3]
      intro he
      injection he with he
      have := (h.new hn).out.lt
      omega
end
theorem longX_lt {X : Nat → Nat} (hX : ∀ k, X k < 256) (len pa ct wd i k : Nat) : longX X len pa ct wd i k < 256 := by
  unfold longX fullX
  split
  · split
    · exact hX _
    · omega
  · omega
theorem LSt.rdM {w0 w : World} {bb rb ob : Nat} {LA : Option Addr} {num cl dr pa ad ct wd Lg len : Nat} {X : Nat → Nat} {j jw : Nat} {G C Gw : Nat → Nat} {sv : Value} (h : LSt w0 bb rb ob LA num cl dr pa ad ct wd Lg len X j jw G C Gw sv w) (hL : Lg ≤ 4096) :
    ∃ A c, sv = .slice A jw c ∧ RdM .u8 w A jw (fun i => some ⟨Gw i, 0, none⟩) (fun _ => Lg) (fun _ => Lg) (fun i k => (longX X len pa ct wd i k : Nat)) := by
  obtain ⟨A, c, rfl, h1, h2, h3, h4⟩ := own_open h.own
  have hLm : Lg ≤ maxLen := by unfold maxLen; omega
  refine ⟨A, c, rfl, Nat.le_trans h1 h2, fun h0 => ?_, fun i hi => ⟨(h.long i hi).rdI hLm, Nat.le_refl _, hLm⟩⟩
  obtain ⟨g, rfl, _, hg⟩ := h3 h0
  refine ⟨g, 0, rfl, hg, fun i hi => ?_⟩
  have := h4 g rfl i (.slice (some ⟨Gw i, 0, none⟩) Lg Lg) (by simp [rowsC, hi])
  simpa using this
def LayPost (num : Nat) (L : Nat → Nat) (M : Nat → Nat → Nat) (w : World) (e : Ending) (w' : World) : Prop :=
  (∃ A c R C, e = .returned (.tuple #[.slice A num c, .int .i64 0]) ∧ RdM .u8 w' A num R L C (fun i k => (M i k : Nat))) ∧ New w w'
def layL (pa ct wd c : Nat) : Nat := if c < pa then 128 * cntC pa ct wd 0 else 128 * cntC pa ct wd c
def layM (X : Nat → Nat) (len pa ct wd c k : Nat) : Nat := if c < pa then enN c (fun i k => (longX X len pa ct wd i k : Nat)) (dcN ct wd) k else fullX X len (atS ct wd (c - pa) + k)
set_option maxHeartbeats 4000000 in
theorem Lay_ok (dr pa ad wd ct b off len cd : Nat) (X : Nat → Nat) (h1 : 2 ≤ dr) (h2 : dr ≤ 8) (h3 : 1 ≤ pa) (h4 : pa ≤ 3) (h5 : dr = pa + wd) (h6 : 1 ≤ wd) (h7 : ad ≤ 65536) (h : 1 ≤ len ∧ len ≤ 4096) (hct : ct = (len + 127) / 128) (w : World)
    (hX : ∀ k, k < len → w.cell? ⟨b, off + k, none⟩ = some (.int .u8 (X k : Nat))) (hX8 : ∀ k, X k < 256) (hb : b < w.heap.size) :
    Calls Try.prog 15 #[.int .i64 dr, .int .i64 pa, .int .i64 ad, .slice (some ⟨b, off, none⟩) len cd] w (LayPost (numP dr pa ct wd) (layL pa ct wd) (layM X len pa ct wd) w) := by
  obtain ⟨i0, hi0, hz0, hz1, hz2⟩ := info_parts infoSl
  have hsh := Lib.hid (fun w => shaped_ok dr pa ad len wd ct h1 h2 h3 h4 h5 h6 h7 h hct w)
  have hsec := Lib.hid (fun w => sectors_any len h.2 w)
  rw [← hct] at hsec
  have hc1 : 1 ≤ ct := by omega
  have hc2 : ct ≤ 32 := by omega
  have hnum := numP_eq (pa := pa) h6 hc1
  have hdc := dc_pos h6 hc1
  have hdl := dc_le h6 hc1
  rw [← h5] at hnum
  have hc0 := cnt_max (pa := pa) h6 hc1 hc2 h3
  have hlen1 := h.1
  have hlen2 := h.2
  have hlct : len ≤ 128 * ct := by omega
  obtain ⟨num, hnn⟩ : ∃ num, Hid (num = numP dr pa ct wd) := ⟨_, rfl⟩
  rw [← hnn.out] at hsh hnum ⊢
  have hn8 : num ≤ 8 := by omega
  obtain ⟨Lg, hLg⟩ : ∃ Lg, Hid (Lg = 128 * cntC pa ct wd 0) := ⟨_, rfl⟩
  rw [← hLg.out] at hsh
  have hLg4 : Lg ≤ 4096 := by have := hLg.out; omega
  obtain ⟨RT, hRT⟩ : ∃ RT, RT = 128 * ct := ⟨_, rfl⟩
  have hRT4 : RT ≤ 4096 := by omega
  have hmulR : (ct : Int) * 128 = (RT : Int) := by omega
  have hlr : len ≤ RT := by omega
  replace hRT := Lib.hid hRT
  have hX0 := Lib.hid hX
  have hnum0 := Lib.hid hnum
  have hmk := run_make_row' (P := Try.prog) 32 5 (.int .u8 0) 1 Try.underlying32 infoU8 rfl .i64 .i64 RT (by omega) (by omega)
  have hmk2 := run_make_row' (P := Try.prog) 22 32 (.slice none 0 0) 24 Try.underlying22 infoSl rfl .i64 .i64 num (by omega) (by omega)
  have hszI : Hid ((Try.prog.info? 5).map (·.size) = some 1) := by
    show _ = _
    kernel_rfl
  have hmin : Hid (len = Nat.min len RT) := (Nat.min_eq_left hlr).symm
  have h50 := Lib.hid h5
  clear h hct hX hnum h5
  go_enter Try.func15, Try.ntmps15
  go_wp2_with fail
  refine (hsh.out _).mono ?_
  rintro e w1 ⟨⟨LA, cl, rfl, hcol⟩, hn1⟩
  obtain ⟨bb, hbb⟩ : ∃ bb, bb = w1.heap.size := ⟨_, rfl⟩
  obtain ⟨W2, hW2⟩ : ∃ W2, W2 = w1.alloc (.cells #[.slice LA num cl, .int .i64 pa, .int .i64 Lg] 57) := ⟨_, rfl⟩
  have hbk2 : Blk W2 bb 57 #[.slice LA num cl, .int .i64 pa, .int .i64 Lg] := by rw [hW2, hbb]; exact Blk.fresh _ _ _
  have hN2 : New w W2 := by rw [hW2]; exact hn1.alloc _
  have hcol2 : Hid (W2.ownsRow (w.heap.size + 1) 63 4 (.slice LA num cl) num (colL dr pa ad (cntC pa ct wd) num)) := by rw [hW2]; exact own_new hcol ((New.refl _).alloc _)
  go_wp2_with fail
  rw [← hW2, ← hbb]
  refine (hsec.out _).mono ?_
  rintro e W2' ⟨rfl, hw22⟩
  subst hw22
  have hmade := Lib.hid (World.rowIs_made W2 (.int .u8 0) RT 5)
  have hX2 : Hid (∀ j, j < len → (W2.alloc (.cells (madeCells #[.int .u8 0] RT) 5)).cell? ⟨b, off + j, none⟩ = some (.int .u8 (X j : Nat))) := fun j hj => ((hN2.alloc _).cell (p := ⟨b, off + j, none⟩) hb).trans (hX0.out j hj)
  have hbl2 : bb < W2.heap.size := hbk2.lt
  have hbk2' := Lib.hid hbk2
  have hN2' := Lib.hid hN2
  clear hW2 hbb hbk2 hN2
  have hd0 : Hid (∀ w', W2.grownBy w' (some W2.heap.size) → w'.cell? ⟨bb, 0, none⟩ = some (.slice LA num cl)) := fun w' hg => by
    have := (hbk2'.out.grown hg (fun he => by cases he; omega)).cell 0
    simpa using this
  go_wp2_with ((with_reducible refine wpList_copy_rowIs rfl (.tmp 35) (.tmp 36) 32 32 rfl 5 Try.underlying32 hszI.out W2.heap.size 0 RT 5 _ hmade.out (some ⟨W2.heap.size, 0, none⟩) (some ⟨b, off, none⟩) RT RT len cd len (fun j => .int .u8 (X j : Nat)) rfl rfl hmin.out (fun _ => ⟨rfl, b, off, rfl, hX2.out⟩) (by omega) (fun j _ => rfl) ?_); intro w3 hr3 hg3; have hd03 := hd0.out w3 ⟨hg3.1, hg3.2, hg3.3, Nat.le_trans (by simp) hg3.4, fun k hk hne => (hg3.block k (by simp; omega) hne).trans (Below.heap_alloc _ _ _ hk)⟩)
  have hN3 : New w w3 := (hN2'.out.alloc _).grown1 hg3 hN2'.out.size
  have hgx : W2.grownBy w3 (some W2.heap.size) := ⟨hg3.1, hg3.2, hg3.3, Nat.le_trans (by simp) hg3.4, fun k hk hne => (hg3.block k (by simp; omega) hne).trans (Below.heap_alloc _ _ _ hk)⟩
  obtain ⟨rb, hrb⟩ : ∃ rb, rb = W2.heap.size := ⟨_, rfl⟩
  rw [← hrb] at hgx hr3 ⊢
  obtain ⟨ob, hob⟩ : ∃ ob, ob = w3.heap.size := ⟨_, rfl⟩
  obtain ⟨W4, hW4⟩ : ∃ W4, W4 = w3.alloc (.cells (madeCells #[.slice none 0 0] num) 32) := ⟨_, rfl⟩
  have hst : LSt w bb rb ob LA num cl dr pa ad ct wd Lg len X 0 0 (fun _ => 0) (fun _ => 0) (fun _ => 0) (.slice none 0 0) W4 := by
    have hN4 : New w3 W4 := by rw [hW4]; exact (New.refl _).alloc _
    refine ⟨hN3.next hN4, (hbk2'.out.grown hgx (fun he => by cases he; omega)).new hN4, own_new (hcol2.out.kept hgx ?_) hN4, RowK.new (RowK.of_rowIs hr3.out (Nat.le_of_eq hRT.out.symm) fun k hk => ?_) hN4, ?_, fun i hi => absurd hi (Nat.not_lt_zero i), World.ownsRow_nil _ _ _ _, fun i hi => absurd hi (Nat.not_lt_zero i), by rw [hob]; exact hN3.size, by simp [Value.ownBlock], fun i hi => absurd hi (Nat.not_lt_zero i)⟩
    · right
      intro he
      have := (hcol2.out.lt _ he).2
      omega
    · unfold cpF fullX
      by_cases e : k < len
      · rw [if_pos ⟨Nat.zero_le _, by omega⟩, if_pos e]; rfl
      · rw [if_neg (by omega), if_neg e]; rfl
    · rw [hW4, hob]
      refine (World.rowIs_made w3 (.slice none 0 0) num 32).congr fun i _ => ?_
      unfold outF
      rw [if_neg (by omega)]
  rw [← hob, ← hW4]
  replace hst := Lib.hid hst
  clear hr3 hg3 hgx hrb hob hW4 hN3 hmade hX2 hd0 hd03 hcol2 hbl2 hbk2' hN2' hmk hmk2
  obtain ⟨dc, hdce⟩ : ∃ dc, Hid (dc = dcN ct wd) := ⟨_, rfl⟩
  rw [← hdce.out] at hdc hdl
  have hpd : Hid (num = pa + dc) := by rw [hdce.out]; exact hnum0.out
  have hpn : pa ≤ num := by have := hpd.out; omega
  go_loopw [15, 12, 14] (fun x r s wr => ∃ (c j : Nat) (G C Gw : Nat → Nat) (sv rv : Value), sv = s ∧ rv = r ∧ x = .int .i64 c ∧ Hid (c = pa + j) ∧ c ≤ num ∧ Hid (j < dc → rv = .slice (some ⟨rb, atS ct wd j, none⟩) (RT - atS ct wd j) (RT - atS ct wd j)) ∧ Hid (LSt w bb rb ob LA num cl dr pa ad ct wd Lg len X j j G C Gw sv wr)) (fun x _ _ _ => num - (intOf x).toNat)
  case atStart => exact ⟨pa, 0, _, _, _, _, _, rfl, rfl, rfl, rfl, hpn, (fun _ => by rw [at_zero]; rfl), hst.out⟩
  case round =>
    clear hst
    obtain ⟨c, j, G, C, Gw, sv, rv, rfl, rfl, rfl, hcj, hcn, hrv, hs⟩ := hrel
    by_cases hlt : c < num
    · have hjd : j < dc := by have := hcj.out; have := hpd.out; omega
      have hrv2 := hrv.out hjd
      clear hrv
      subst hrv2
      have hci : (c : Int) < (num : Int) := by omega
      obtain ⟨d0, d1, d2⟩ := hs.out.cells
      have ho := hs.out.out.cell hlt
      have hof : outF pa ct wd j G C c = .slice none 0 0 := by unfold outF; rw [if_neg (by have := hcj.out; omega)]
      rw [hof] at ho
      have hf := hs.out.out.frozen c
      obtain ⟨sz, hsz⟩ : ∃ sz, Hid (sz = 128 * cntC pa ct wd c) := ⟨_, rfl⟩
      obtain ⟨at0, hat⟩ : ∃ at0, Hid (at0 = atS ct wd j) := ⟨_, rfl⟩
      rw [← hat.out]
      have hnx := at_next (pa := pa) h6 hc1 j
      have hle := at_le h6 hc1 (j + 1) (by rw [← hdce.out]; omega)
      have hps := cnt_pos (pa := pa) h6 hc1 j (by rw [← hdce.out]; omega)
      rw [← hcj.out] at hnx hps
      have hsz1 : 128 ≤ sz := by have := hsz.out; omega
      have hfit : at0 + sz ≤ RT := by have := hsz.out; have := hat.out; have := hRT.out; omega
      have hnx0 : Hid (atS ct wd (j + 1) = at0 + sz) := by show _ = _; rw [hsz.out, hat.out]; exact hnx
      clear hnx hle hps hof
      have hC32 : cntC pa ct wd c ≤ 32 := Nat.le_trans (cnt_le h6 hc1 h3 c) hc0
      have hszc : Hid (∀ w', wr.grownBy w' (some ob) → Calls Try.prog 35 #[.agg #[.slice LA num cl, .int .i64 pa, .int .i64 Lg], .int .i64 c] w' fun e w'' => e = .returned (.int .i64 (sz : Nat)) ∧ New w' w'') := fun w' hg => by
        rw [hsz.out]
        exact size_any LA num cl _ dr pa ad c Lg pa _ w' (hs.out.far hg).2.1 hlt hn8 hC32
      have hclc : Hid (∀ w', wr.grownBy w' (some ob) → Calls Try.prog 34 #[.slice (some ⟨rb, at0, none⟩) sz (RT - at0)] w' fun e w'' => (∃ g cap, e = .returned (.slice (some ⟨g, 0, none⟩) sz cap) ∧ (sz ≤ cap ∧ cap ≤ maxLen) ∧ RowK 5 .u8 w'' g sz (fun k => fullX X len (at0 + k)) ∧ w'.heap.size ≤ g) ∧ New w' w'') := fun w' hg =>
        Clone_any rb at0 sz (RT - at0) _ w' (fun k hk => (hs.out.far hg).2.2.cell (by have := hRT.out; omega)) (by omega) (by omega) (hs.out.far hg).2.2.lt
      have hkeep : Hid (∀ w', wr.grownBy w' (some ob) → wr.grownBy w' (some ob) ∧ w'.cell? ⟨bb, 0, none⟩ = some (.slice LA num cl) ∧ w'.cell? ⟨bb, 1, none⟩ = some (.int .i64 pa) ∧ w'.cell? ⟨bb, 2, none⟩ = some (.int .i64 Lg)) := fun w' hg => by
        have h1 := (hs.out.far hg).1
        have f0 := h1.cell 0
        have f1 := h1.cell 1
        have f2 := h1.cell 2
        simp at f0 f1 f2
        exact ⟨hg, f0, f1, f2⟩
      have q0 : (0 : Int) ≤ (c : Int) := by omega
      have q1 : (0 : Int) ≤ (sz : Int) := by omega
      have q2 : (sz : Int) ≤ (RT - at0 : Nat) := by omega
      have q3 : sz ≤ RT - at0 := by omega
      have hnF : New wr wr.drew := (New.refl _).drew
      have hszL : sz ≤ Lg := by have := hsz.out; have := hLg.out; have := cnt_le (pa := pa) (ct := ct) h6 hc1 h3 c; omega
      go_wp2_with fail
      go_region_held3 (fun w' => wr.grownBy w' (some ob) ∧ w'.cell? ⟨bb, 0, none⟩ = some (.slice LA num cl) ∧ w'.cell? ⟨bb, 1, none⟩ = some (.int .i64 pa) ∧ w'.cell? ⟨bb, 2, none⟩ = some (.int .i64 Lg))
        (first
          | exact hkeep.out _ (grown_new (New.refl _).drew _)
          | assumption
          | exact hkeep.out _ ((And.left ‹wr.grownBy _ (some ob) ∧ _›).trans (grown_set _ _ _ _))
          | exact hkeep.out _ ((And.left ‹wr.grownBy _ (some ob) ∧ _›).trans (grown_new hnC _))
          | exact hkeep.out _ ((And.left ‹wr.grownBy _ (some ob) ∧ _›).trans (grown_new hnS _)))
        (first
          | (go_at_call 35; refine (hszc.out _ (And.left ‹wr.grownBy _ (some ob) ∧ _›)).mono ?_; rintro e wL ⟨rfl, hnS⟩; have hf := (hnS.frozen (p := ⟨ob, c, none⟩) (lt_of_cell ho)).trans hf; have ho := (hnS.cell (p := ⟨ob, c, none⟩) (lt_of_cell ho)).trans ho; (try have hRC := hRC.new hnS); have hnF := hnF.next hnS)
          | (go_at_call 34; refine (hclc.out _ (And.left ‹wr.grownBy _ (some ob) ∧ _›)).mono ?_; rintro e wL ⟨⟨g, cap, rfl, hcapg, hRC, hgC⟩, hnC⟩; have hf := (hnC.frozen (p := ⟨ob, c, none⟩) (lt_of_cell ho)).trans hf; have ho := (hnC.cell (p := ⟨ob, c, none⟩) (lt_of_cell ho)).trans ho; have hnF := hnF.next hnC))
      all_goals
        generalize hap : (if RT - at0 = sz then some (⟨rb, at0, none⟩ : Addr) else some ⟨rb, at0 + sz, none⟩) = ap
        have hrv2 : Hid (j + 1 < dc → Value.slice ap (RT - at0 - sz) (RT - at0 - sz) = .slice (some ⟨rb, atS ct wd (j + 1), none⟩) (RT - atS ct wd (j + 1)) (RT - atS ct wd (j + 1))) := fun hj1 => by
          have hnx2 := at_next (pa := pa) h6 hc1 (j + 1)
          have hle2 := at_le h6 hc1 (j + 1 + 1) (by rw [← hdce.out]; omega)
          have hps2 := cnt_pos (pa := pa) h6 hc1 (j + 1) (by rw [← hdce.out]; omega)
          have hne : ¬ RT - at0 = sz := by have := hRT.out; have := hnx0.out; omega
          rw [← hap, if_neg hne, hnx0.out, Nat.sub_sub]
        have hs2 := hs.out.store (g := g) (c := cap) hnF (by rw [← hcj.out, ← hsz.out, ← hat.out]; exact hRC) (by rw [← hcj.out]; exact hlt) (by rw [← hcj.out, ← hsz.out]; exact hcapg)
        rw [← hcj.out, ← hsz.out] at hs2
        clear hap hRC ho hf hkeep hclc hszc hnF d0 d1 d2 hs
        obtain ⟨W3, hW3⟩ : ∃ W3, W3 = World.setCell wL ⟨ob, c, none⟩ (.slice (some ⟨g, 0, none⟩) sz cap) := ⟨_, rfl⟩
        rw [← hW3] at hs2 ⊢
        replace hs2 := Lib.hid hs2
        obtain ⟨d0, d1, d2⟩ := hs2.out.cells
        have ho := hs2.out.out.cell hlt
        have hof : outF pa ct wd (j + 1) (fun i => if i = j then g else G i) (fun i => if i = j then cap else C i) c = .slice (some ⟨g, 0, none⟩) sz cap := by
          unfold outF
          rw [if_pos ⟨by have := hcj.out; omega, by have := hcj.out; omega⟩, ← hsz.out]
          simp only [show c - pa = j by have := hcj.out; omega, if_true]
        rw [hof] at ho
        clear hof hW3
        have hrow3 : Hid (RowK 5 .u8 W3 g sz (fun k => fullX X len (at0 + k))) := by
          have := hs2.out.cols j (by omega)
          simp only [if_true] at this
          rw [← hcj.out, ← hsz.out, ← hat.out] at this
          exact this
        have hkeep2 : Hid (∀ w', New W3 w' → w'.cell? ⟨bb, 0, none⟩ = some (.slice LA num cl) ∧ w'.cell? ⟨bb, 1, none⟩ = some (.int .i64 pa) ∧ w'.cell? ⟨bb, 2, none⟩ = some (.int .i64 Lg) ∧ w'.cell? ⟨ob, c, none⟩ = some (.slice (some ⟨g, 0, none⟩) sz cap)) := fun w' h =>
          ⟨(h.cell (lt_of_cell d0)).trans d0, (h.cell (lt_of_cell d1)).trans d1, (h.cell (lt_of_cell d2)).trans d2, (h.cell (lt_of_cell ho)).trans ho⟩
        have hj8 : j ≤ 8 := by have := hpd.out; omega
        have hbase : w.heap.size ≤ W3.heap.size := hs2.out.nw.size
        have hi4 : (0 : Int) ≤ (c : Int) := by omega
        have hocol : Hid (outF pa ct wd (j + 1) (fun i => if i = j then g else G i) (fun i => if i = j then cap else C i) c = .slice (some ⟨g, 0, none⟩) sz cap) := by
          show _ = _
          unfold outF
          rw [if_pos ⟨by have := hcj.out; omega, by have := hcj.out; omega⟩, ← hsz.out]
          simp only [show c - pa = j by have := hcj.out; omega, if_true]
        go_wp2_with fail
        go_region_held3 (fun w' => w'.cell? ⟨bb, 0, none⟩ = some (.slice LA num cl) ∧ w'.cell? ⟨bb, 1, none⟩ = some (.int .i64 pa) ∧ w'.cell? ⟨bb, 2, none⟩ = some (.int .i64 Lg) ∧ w'.cell? ⟨ob, c, none⟩ = some (.slice (some ⟨g, 0, none⟩) sz cap))
          (first
            | exact hkeep2.out _ (New.refl _).drew
            | assumption
            | exact hS7
            | exact hkeep2.out _ (New.alloc hN6 _)
            | exact hkeep2.out _ hN6)
          (first
            | (go_at_call 36; refine (filled_any LA num cl pa Lg g sz cap (fun k => fullX X len (at0 + k)) _ (hrow3.out.new (New.refl _).drew) hszL hLg4).mono ?_; rintro e W6 ⟨⟨g6, rfl, hr6, hg6⟩, hn6⟩; have hN6 : New W3 W6 := New.next (New.refl W3).drew hn6; have hs6 := hs2.out.new hN6; have hown6 := hs6.own; have hbase6 := hs6.nw.size; replace hs6 := Lib.hid hs6)
            | (refine step_append_lies _ (by rfl) _ _ 22 (by rfl) w.heap.size 32 i0 _ 1 24 Try.underlying22 hi0 hz0 hz1 hz2 rfl (by decide) sv j (rowsC Gw (fun _ => Lg) Lg j) (by rfl) (hown6.alloc _) ⟨W6.heap.size, 0, none⟩ 1 1 [.slice (some ⟨g6, 0, none⟩) Lg Lg] (by rfl) (by rfl) (World.news_of_block (cs := #[.slice _ _ _]) (t := 32) (fr := (0, 0)) (heap_alloc_new W6 _)) (by simp [Value.oneCell']) (by omega) (by unfold maxLen; omega) (by omega) (by simp; omega) (W6.heap.size + 1) (by simp) ?_; intro g7 c7 w7 hown7 hgrow7 hat7 hlt7; have hlong : RowK 5 .u8 W6 g6 Lg (longX X len pa ct wd j) := hr6.congr (fun k _ => by unfold longX; rw [← hcj.out, ← hsz.out, ← hat.out]); have hs7 := hs6.out.whole (New.refl _) hlong hown7 hgrow7 (by rcases hat7 with h | h; (left; exact h.trans (by rfl)); (right; rw [h]; rfl)); have hS7 := And.intro hs7.cells.1 (And.intro hs7.cells.2.1 (And.intro hs7.cells.2.2 ((hs7.out.cell hlt).trans (by rw [hocol.out])))); replace hs7 := Lib.hid hs7; clear hlong hown7 hgrow7 hat7))
        all_goals clear hkeep2 hrow3
        all_goals go_wp2
        all_goals go_roundw
        case rel => exact ⟨c + 1, j + 1, _, _, _, _, _, rfl, rfl, by go_num, (by show _ = _; rw [hcj.out]; rfl), by omega, hrv2, hs7.out⟩
        case measure => simp [intOf]; omega
    · have hcn2 : c = num := by omega
      have hjd : j = dc := by have := hcj.out; have := hpd.out; omega
      subst hjd
      obtain ⟨A, cw, hsv, hrd⟩ := hs.out.rdM hLg4
      subst hsv
      have hM8 : ∀ i, i < j → ∀ k, k < Lg → 0 ≤ ((longX X len pa ct wd i k : Nat) : Int) ∧ ((longX X len pa ct wd i k : Nat) : Int) ≤ 255 := fun i _ k _ => by
        have := longX_lt hX8 len pa ct wd i k
        omega
      have henc := Lib.hid (Encode_any A j cw (pa : Int) _ _ _ _ wr hrd hM8)
      have hcode : peCode j (fun _ => Lg) (pa : Int) = 0 := by
        unfold peCode
        rw [if_pos, if_pos ⟨by omega, by omega⟩]
        unfold mayC evB
        simp
        refine ⟨⟨by omega, by have := hpd.out; omega⟩, fun i _ => ?_⟩
        unfold evP
        exact ⟨rfl, hLg4⟩
      have hlenp : peLen j (fun _ => Lg) (pa : Int) = pa := by unfold peLen; rw [hcode]; simp
      rw [hcode, hlenp] at henc
      have hci : ¬ (c : Int) < (num : Int) := by omega
      clear hrd hM8 hcode hlenp hrv
      go_wp2_with fail
      refine henc.out.mono ?_
      rintro e w5 ⟨v5, rfl, ⟨B, d, R1, C1, rfl, hrd5⟩, hn5⟩
      have hs5 := Lib.hid (hs.out.new hn5)
      obtain ⟨b1, o1, rfl, hb1, hcs1⟩ := hrd5.2.1 (by omega)
      have hcs1' := Lib.hid hcs1
      have hrd5' := Lib.hid hrd5
      have hszS : Hid ((Try.prog.info? 32).map (·.size) = some 1) := by
        show _ = _
        kernel_rfl
      have hminp : Hid (pa = Nat.min pa num) := (Nat.min_eq_left hpn).symm
      have hout5 := Lib.hid hs5.out.out
      clear hrd5 hcs1 henc hs
      go_wp2_with ((with_reducible refine wpList_copy_rowIs rfl (.tmp 78) (.tmp 79) 22 22 rfl 32 Try.underlying22 hszS.out ob 0 num 32 _ hout5.out (some ⟨ob, 0, none⟩) (some ⟨b1, o1, none⟩) num num pa d pa (fun i => .slice (R1 i) Lg (C1 i)) rfl rfl hminp.out (fun _ => ⟨rfl, b1, o1, rfl, hcs1'.out⟩) (by omega) (fun j _ => rfl) ?_); intro w6 hr6 hg6)
      have hN6 : New w w6 := hs5.out.nw.grown1 hg6 hs5.out.ob0
      have hpost : Hid (LayPost num (layL pa ct wd) (layM X len pa ct wd) w (.returned (.tuple #[.slice (some ⟨ob, 0, none⟩) num num, .int .i64 0])) w6) := by
        refine ⟨⟨some ⟨ob, 0, none⟩, num, fun c => if c < pa then R1 c else some ⟨G (c - pa), 0, none⟩, fun c => if c < pa then C1 c else C (c - pa), rfl, by unfold maxLen; omega, fun _ => ⟨ob, 0, rfl, hr6.out.lt, fun i hi => ?_⟩, fun i hi => ?_⟩, hN6⟩
        · rw [Nat.zero_add, hr6.out.cell hi]
          unfold cpF layL outF
          by_cases e : i < pa
          · rw [if_pos ⟨Nat.zero_le _, by omega⟩, if_pos e, ← hLg.out]
            simp only [if_pos e, Nat.sub_zero]
          · rw [if_neg (by omega), if_neg e, if_pos ⟨by omega, by have := hpd.out; omega⟩]
            simp only [if_neg e]
        · by_cases e : i < pa
          · simp only [if_pos e, layL, layM]
            obtain ⟨r1, r2, r3⟩ := hrd5'.out.2.2 i e
            refine ⟨?_, by rw [← hLg.out]; exact r2, r3⟩
            have := rdI_grown r1 hg6 (rdI_ne r1 hout5.out (fun i _ z => by unfold outF; split <;> exact (fun h => by cases h)))
            rw [← hLg.out]
            rw [← hdce.out]
            exact this
          · simp only [if_neg e, layL, layM]
            have hij : i - pa < j := by have := hpd.out; omega
            have hrow := hs5.out.cols (i - pa) hij
            rw [show pa + (i - pa) = i by omega] at hrow
            have hrow2 := hrow.grown hg6 (fun he => hrow.ne_row hout5.out (by decide) (by cases he; rfl))
            have hcp := hs5.out.caps (i - pa) hij
            rw [show pa + (i - pa) = i by omega] at hcp
            exact ⟨hrow2.rdI (Nat.le_trans hcp.1 hcp.2), hcp.1, hcp.2⟩
      clear hr6 hg6
      go_wp2
      go_ret2
      exact hpost.out
theorem Lay_len (d p a : Int) (A : Option Addr) (n c : Nat) (w : World) (hn : n ≤ maxLen) (h : ¬ (1 ≤ n ∧ n ≤ 4096)) :
    Calls Try.prog 15 #[.int .i64 d, .int .i64 p, .int .i64 a, .slice A n c] w fun e w' => e = .returned (.tuple #[.slice none 0 0, .int .i64 1]) ∧ New w w' := by
  have hsh := Lib.hid (shaped_len d p a n w hn h)
  clear h
  go_enter Try.func15, Try.ntmps15
  go_wp2_with fail
  refine hsh.out.mono ?_
  unfold zeroB
  rintro e w1 ⟨rfl, hn1⟩
  go_wp2
  go_ret2
  exact ⟨rfl, hn1.alloc _⟩
theorem Lay_geom (d p a : Int) (A : Option Addr) (n c : Nat) (w : World) (h : 1 ≤ n ∧ n ≤ 4096) (hg : ¬ (mayP d p ∧ cntP ((n + 127) / 128 : Nat) ∧ adrP a)) :
    Calls Try.prog 15 #[.int .i64 d, .int .i64 p, .int .i64 a, .slice A n c] w fun e w' => e = .returned (.tuple #[.slice none 0 0, .int .i64 2]) ∧ New w w' := by
  have hsh := Lib.hid (shaped_geom d p a n w h hg)
  clear h hg
  go_enter Try.func15, Try.ntmps15
  go_wp2_with fail
  refine hsh.out.mono ?_
  unfold zeroB
  rintro e w1 ⟨rfl, hn1⟩
  go_wp2
  go_ret2
  exact ⟨rfl, hn1.alloc _⟩
end Go.Proofs.Ytjmjnodaohbpfaa.stripe
