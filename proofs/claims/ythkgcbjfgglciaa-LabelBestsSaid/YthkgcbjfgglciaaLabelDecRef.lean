/-
  Contract of the reference's LabelDecoded.
-/
import Derived.Test.YthkgcbjfgglciaaLabelDec
import Derived.Laws.BytesArg
import Derived.Deep.RegionHeld3
namespace Go.Proofs.Ythkgcbjfgglciaa.label
open Go.ChangeShapes Go.WideShapes Go.ChangeAt Go.RowKit Go.Proofs.Ythkgcbjfgglciaa.kit Go.Proofs.Ythkgcbjfgglciaa.flet Go.Deep
set_option linter.unusedVariables false

/-- bytes as a string -/
def strB (F : Nat → Nat) (n : Nat) : ByteArray := strOfNums ((List.range n).map fun i => (F i : Int))
theorem conv_any (A : Option Addr) (n c : Nat) (F : Nat → Nat) (w : World) (h : RdB w A n F) (h0 : 0 < n) :
    (convert 42 9 (.slice A n c)).run Try.prog w = .ok (.string (strB F n)) w := by
  obtain ⟨b, off, rfl, _, hcs⟩ := h.2.2 h0
  exact run_convert_bytes_arg (P := Try.prog) w 42 5 Try.underlying42 Try.underlying5 b off n c ((List.range n).map fun i => (F i : Int)) (by simp) (fun i hi => by rw [hcs i hi]; simp [hi]) 9 Try.underlying9
theorem strB_eq (F G : Nat → Nat) (n : Nat) (hF : ∀ i, i < n → F i < 256) (hG : ∀ i, i < n → G i < 256) : (strB F n = strB G n) ↔ ∀ i, i < n → F i = G i := by
  constructor
  · intro h i hi
    have h1 := congrArg (fun s : ByteArray => s.data.toList[i]?) h
    simp only [strB, strOfNums_data] at h1
    simp [hi] at h1
    have h2 := congrArg UInt8.toNat h1
    have := hF i hi
    have := hG i hi
    simp at h2
    omega
  · intro h
    unfold strB
    congr 1
    apply List.map_congr_left
    intro i hi
    rw [h i (List.mem_range.1 hi)]
theorem sameBytes_any (A B : Option Addr) (n c d : Nat) (F G : Nat → Nat) (w : World) (hF : RdB w A n F) (hG : RdB w B n G) (h0 : 0 < n) :
    Calls Try.prog 62 #[.slice A n c, .slice B n d] w fun e w' => e = .returned (.bool (eqB F G n)) ∧ w = w' := by
  have h1 := conv_any A n c F w hF h0
  have h2 := conv_any B n d G w hG h0
  have he := strB_eq F G n hF.2.1 hG.2.1
  cases hq : eqB F G n with
  | true =>
    have hs : Hid (strB F n = strB G n) := he.2 (eqB_out hq)
    rw [← hs.out] at h2
    have he := Lib.hid he
    have hq := Lib.hid hq
    clear hF hG
    generalize strB F n = s at *
    go_enter Try.func62, Try.ntmps62
    go_wp2
    go_ret
    exact ⟨rfl, rfl⟩
  | false =>
    have hs : strB F n ≠ strB G n := fun h => by have := eqB_true (he.1 h); rw [hq] at this; cases this
    have he := Lib.hid he
    have hq := Lib.hid hq
    clear hF hG
    generalize strB F n = s at *
    generalize strB G n = t at *
    have hb : ¬ s.toList = t.toList := fun h => hs (by
      rw [ByteArray.toList_eq, ByteArray.toList_eq] at h
      exact WideShapes.bytes_inj h)
    go_enter Try.func62, Try.ntmps62
    go_wp2
    go_ret
    exact ⟨by simp [hb], rfl⟩
theorem LabelDecoded_len (n c : Nat) (A : Option Addr) (w : World) (hm : n ≤ maxLen) (hn : n ≠ 128) :
    Calls Try.prog 33 #[.slice A n c] w fun e w' => e = .returned (.tuple #[.agg zero13, .int .i64 1]) ∧ New w w' := by
  unfold maxLen at hm
  have hne : ((n : Int) != 128) = true := by simp; omega
  go_enter Try.func33, Try.ntmps33
  go_wp2
  exact bodyPost_ret (v := .tuple #[.agg zero13, .int .i64 1]) (by simp [results, Try.results33, go_sem]) rfl ⟨rfl, ((New.refl _).alloc _).alloc _⟩
/-- the sum's bytes are the seal -/
theorem seal_bytes (B : Nat → Nat) (hB : ∀ i, i < 128 → B i < 256) : (∀ i, i < 32 → sumB (at4 (sumS B)) i = B (96 + i)) ↔ sealP B := by
  have hj : ∀ j, j < 4 → (at4 (sumS B) j = seB B j ↔ ∀ q, q < 8 → lowB (at4 (sumS B) j) q = B (96 + 8 * j + q)) := fun j hj => num_iff _ (fun q => B (96 + 8 * j + q)) (fun q hq => hB _ (by omega)) (at4_bd B j).1 (at4_bd B j).2
  constructor
  · intro h j hj4
    refine (hj j hj4).2 fun q hq => ?_
    have := h (8 * j + q) (by omega)
    rw [sumB_at _ j q hq] at this
    rw [this, show 96 + (8 * j + q) = 96 + 8 * j + q by omega]
  · intro h i hi
    have := (hj (i / 8) (by omega)).1 (h (i / 8) (by omega)) (i % 8) (by omega)
    rw [show 96 + 8 * (i / 8) + i % 8 = 96 + i by omega] at this
    exact this
set_option maxRecDepth 100000 in
set_option maxHeartbeats 1000000 in
theorem LabelDecoded_ok (c : Nat) (A : Option Addr) (B : Nat → Nat) (w : World) (hr : RdB w A 128 B) (hc : 128 ≤ c) (hcm : c ≤ maxLen) :
    Calls Try.prog 33 #[.slice A 128 c] w fun e w' => e = .returned (.tuple #[.agg (labC (decX 128 B)), .int .i64 (decCode 128 B)]) ∧ New w w' := by
  unfold maxLen at hcm
  obtain ⟨b, off, rfl, hb, hcs⟩ := hr.2.2 (by omega)
  obtain ⟨cd, hcd⟩ : ∃ cd, Hid (cd = decCode 128 B) := ⟨_, (rfl : _ = _)⟩
  obtain ⟨R, hR⟩ : ∃ R, Hid (R = labC (decX 128 B)) := ⟨_, (rfl : _ = _)⟩
  rw [← hcd.out, ← hR.out]
  obtain ⟨X, hX⟩ : ∃ X, Hid (X = numX B) := ⟨_, (rfl : _ = _)⟩
  have hr0 := Lib.hid hr
  have hsub : Hid (RdB w (some ⟨b, off + 96, none⟩) 32 (fun i => B (96 + i))) := by
    obtain ⟨b', off', hA, hsub⟩ := rdB_sub hr (lo := 96) (m := 32) (by omega) (by omega)
    injection hA with hA
    injection hA with h1 h2 _
    subst h1 h2
    exact hsub
  have hw0 : Hid (Blk ((w.alloc (.cells #[.slice (some ⟨b, off, none⟩) 128 c] 42)).alloc (.cells zero13 41)) w.heap.size 42 #[.slice (some ⟨b, off, none⟩) 128 c]) := (Blk.fresh w _ _).alloc _
  have hw1 : Hid (Blk ((w.alloc (.cells #[.slice (some ⟨b, off, none⟩) 128 c] 42)).alloc (.cells zero13 41)) (w.heap.size + 1) 41 zero13) := blk_at (by simp)
  have hN0 := Lib.hid (((New.refl w).alloc (.cells #[.slice (some ⟨b, off, none⟩) 128 c] 42)).alloc (.cells zero13 41))
  have hne96 : ¬ c = 96 := by omega
  have h96 : (96 : Int) ≤ (c : Int) := by omega
  clear hr hcs
  go_enter Try.func33, Try.ntmps33
  go_wp2_with fail
  refine (SumMore_ok 0 0 0 0 (some ⟨b, off, none⟩) 96 c B _ (rdB_head (hr0.out.new hN0.out) (by omega)) (by omega) (by omega)).mono ?_
  obtain ⟨S, hS⟩ : ∃ S, Hid (S = sumS B) := ⟨_, (rfl : _ = _)⟩
  rw [show sums B (96 / 4) (0, 0, 0, 0) = S from hS.out.symm]
  rintro e w1 ⟨rfl, hn1⟩
  have hb0 := Lib.hid ((hw0.out.new hn1).alloc (.cells #[.int .i64 S.1, .int .i64 S.2.1, .int .i64 S.2.2.1, .int .i64 S.2.2.2] 37))
  have hb1 := Lib.hid ((hw1.out.new hn1).alloc (.cells #[.int .i64 S.1, .int .i64 S.2.1, .int .i64 S.2.2.1, .int .i64 S.2.2.2] 37))
  have hb2 := Lib.hid (Blk.fresh w1 37 #[.int .i64 S.1, .int .i64 S.2.1, .int .i64 S.2.2.1, .int .i64 S.2.2.2])
  have hN1 := Lib.hid ((hN0.out.next hn1).alloc (.cells #[.int .i64 S.1, .int .i64 S.2.1, .int .i64 S.2.2.1, .int .i64 S.2.2.2] 37))
  clear hn1
  go_wp2
  obtain ⟨W1, hW1⟩ : ∃ W1, W1 = w1.alloc (.cells #[.int .i64 S.1, .int .i64 S.2.1, .int .i64 S.2.2.1, .int .i64 S.2.2.2] 37) := ⟨_, rfl⟩
  obtain ⟨G, hG⟩ : ∃ G, G = w1.heap.size := ⟨_, rfl⟩
  rw [← hW1] at hb0 hb1 hb2 hN1 ⊢
  rw [← hG] at hb2 ⊢
  have d0 := hb2.out.cell 0
  have d1 := hb2.out.cell 1
  have d2 := hb2.out.cell 2
  have d3 := hb2.out.cell 3
  have d4 := hb0.out.cell 0
  simp at d0 d1 d2 d3 d4
  have hkeep : Hid (∀ w', New W1 w' → New W1 w' ∧ w'.cell? ⟨G, 0, none⟩ = some (.int .i64 S.1) ∧ w'.cell? ⟨G, 1, none⟩ = some (.int .i64 S.2.1) ∧ w'.cell? ⟨G, 2, none⟩ = some (.int .i64 S.2.2.1) ∧ w'.cell? ⟨G, 3, none⟩ = some (.int .i64 S.2.2.2) ∧ w'.cell? ⟨w.heap.size, 0, none⟩ = some (.slice (some ⟨b, off, none⟩) 128 c)) := fun w' h =>
    ⟨h, (h.cell (lt_of_cell d0)).trans d0, (h.cell (lt_of_cell d1)).trans d1, (h.cell (lt_of_cell d2)).trans d2, (h.cell (lt_of_cell d3)).trans d3, (h.cell (lt_of_cell d4)).trans d4⟩
  clear hW1 hG
  go_region_held3 (fun w' => New W1 w' ∧ w'.cell? ⟨G, 0, none⟩ = some (.int .i64 S.1) ∧ w'.cell? ⟨G, 1, none⟩ = some (.int .i64 S.2.1) ∧ w'.cell? ⟨G, 2, none⟩ = some (.int .i64 S.2.2.1) ∧ w'.cell? ⟨G, 3, none⟩ = some (.int .i64 S.2.2.2) ∧ w'.cell? ⟨w.heap.size, 0, none⟩ = some (.slice (some ⟨b, off, none⟩) 128 c))
    (first
      | exact hkeep.out _ (New.refl _).drew
      | assumption
      | exact hkeep.out _ (New.next (New.refl _).drew hn2)
      | exact hkeep.out _ (New.next (And.left ‹_›) hn2))
    (first
      | (go_at_call 59; refine (sumBytes_any (at4 S) _ (fun j _ => by rw [hS.out]; exact at4_bd B j)).mono ?_; rintro e w2 ⟨v2, rfl, hown2, hn2⟩; obtain ⟨A2, k2, rfl, _, _, hrd2, _⟩ := own_rdB hown2 (fun i _ => lowB_lt _ _) (by unfold maxLen; omega); clear hown2)
      | (go_at_call 62; refine (sameBytes_any _ _ 32 _ _ (sumB (at4 S)) (fun i => B (96 + i)) _ hrd2 (hsub.out.new (hN1.out.next (And.left ‹New W1 w2 ∧ _›))) (by omega)).mono ?_; rintro e w3 ⟨rfl, rfl⟩))
  have hN2 := Lib.hid (hN1.out.next (And.left ‹New W1 w2 ∧ _›))
  have hb3 := hb0.out.new (And.left ‹New W1 w2 ∧ _›)
  have hb4 := hb1.out.new (And.left ‹New W1 w2 ∧ _›)
  have hq := Lib.hid (seal_bytes B hr0.out.2.1)
  clear ‹New W1 w2 ∧ _› hn2 hrd2 hkeep d0 d1 d2 d3 d4 hb0 hb1 hb2
  cases hE : eqB (sumB (at4 S)) (fun i => B (96 + i)) 32 with
  | false =>
    have hbad : Hid (decCode 128 B = 11) := dec_seal fun h => by
      have h2 : eqB (sumB (at4 S)) (fun i => B (96 + i)) 32 = true := eqB_true (by rw [hS.out]; exact hq.out.2 h)
      rw [hE] at h2
      cases h2
    have hcd4 : cd = 11 := hcd.out.trans hbad.out
    have hRX : Hid (R = zero13) := by rw [hR.out, decX_bad (by rw [hbad.out]; decide)]; exact (rfl : _ = _)
    subst hcd4
    have hb5 := Lib.hid hb4
    clear hb4 hb3 hE
    go_wp2_with (refine wpList_store_row rfl 41 _ _ rfl (w.heap.size + 1) zero13 rfl rfl 41 zero13 hb5.out (by kernel_rfl) rfl zero13_one ?_)
    exact bodyPost_ret (v := .tuple #[.agg zero13, .int .i64 11]) (results_cell_slot Try.results33 _ _ (w.heap.size + 1) 41 zero13 _ rfl (hb5.out.row zero13) Try.underlying41 rfl (by kernel_rfl)) rfl ⟨by rw [hRX.out], hN2.out.row (g := w.heap.size + 1) (by omega) zero13⟩
  | true =>
    have hsl : Hid (sealP B) := hq.out.1 fun i hi => by rw [← hS.out]; exact eqB_out hE i hi
    have d4 := hb3.cell 0
    simp at d4
    have hb5 := Lib.hid hb3
    have hb6 := Lib.hid hb4
    have hcell0 : w2.cell? ⟨w.heap.size, 0, none⟩ = some (.slice (some ⟨b, off, none⟩) 128 c) := d4
    have hrd2 : RdB w2 (some ⟨b, off, none⟩) 128 B := hr0.out.new hN2.out
    have hcm' : c ≤ maxLen := by unfold maxLen; omega
    have f0 : Hid (∀ k, k < 9 → ∀ w', (w'.cell? ⟨w.heap.size, 0, none⟩ = some (.slice (some ⟨b, off, none⟩) 128 c)) → RdB w' (some ⟨b, off, none⟩) 128 B → Calls Try.prog 63 #[.int .i64 (k : Nat), .pointer (some ⟨w.heap.size, 0, none⟩)] w' fun e w'' => e = .returned (.int .i64 (X k)) ∧ w' = w'') := fun k hk w' h1 h2 => by
      have := four_any w.heap.size k c (some ⟨b, off, none⟩) B w' h1 h2 hk hc hcm'
      rw [hX.out]
      unfold numX
      rw [if_pos hk]
      exact this
    have f1 : Hid (∀ k, k < 4 → ∀ w', (w'.cell? ⟨w.heap.size, 0, none⟩ = some (.slice (some ⟨b, off, none⟩) 128 c)) → RdB w' (some ⟨b, off, none⟩) 128 B → Calls Try.prog 65 #[.int .i64 (k : Nat), .pointer (some ⟨w.heap.size, 0, none⟩)] w' fun e w'' => e = .returned (.int .i64 (X (9 + k))) ∧ w' = w'') := fun k hk w' h1 h2 => by
      have := eight_any w.heap.size k c (some ⟨b, off, none⟩) B w' h1 h2 hk hc hcm'
      rw [hX.out]
      unfold numX
      rw [if_neg (by omega), show 9 + k - 9 = k by omega]
      exact this
    have hrd3 := Lib.hid hrd2
    have hc0 := Lib.hid hcell0
    clear hb3 hb4 hE hrd2 hcell0
    go_wp2_with fail
    refine (f0.out 0 (by omega) _ hc0.out hrd3.out).mono ?_
    rintro e wq ⟨rfl, rfl⟩
    go_wp2_with fail
    refine (f0.out 1 (by omega) _ hc0.out hrd3.out).mono ?_
    rintro e wq ⟨rfl, rfl⟩
    go_wp2_with fail
    refine (f0.out 2 (by omega) _ hc0.out hrd3.out).mono ?_
    rintro e wq ⟨rfl, rfl⟩
    go_wp2_with fail
    refine (f0.out 3 (by omega) _ hc0.out hrd3.out).mono ?_
    rintro e wq ⟨rfl, rfl⟩
    go_wp2_with fail
    refine (f0.out 4 (by omega) _ hc0.out hrd3.out).mono ?_
    rintro e wq ⟨rfl, rfl⟩
    have hn3 := (New.refl w2).alloc (.cells #[.int .i64 (X 0), .int .i64 (X 1), .int .i64 (X 2), .int .i64 (X 3), .int .i64 (X 4), .int .i64 0, .int .i64 0, .int .i64 0, .int .i64 0, .int .i64 0, .int .i64 0, .int .i64 0, .int .i64 0] 41)
    have hL0 := Blk.fresh w2 41 #[.int .i64 (X 0), .int .i64 (X 1), .int .i64 (X 2), .int .i64 (X 3), .int .i64 (X 4), .int .i64 0, .int .i64 0, .int .i64 0, .int .i64 0, .int .i64 0, .int .i64 0, .int .i64 0, .int .i64 0]
    have hL1 := Lib.hid hL0
    have hc1 := Lib.hid (((hb5.out.new hn3).cell 0).trans (rfl : _ = some (Value.slice (some ⟨b, off, none⟩) 128 c)))
    have hrd4 := Lib.hid (hrd3.out.new hn3)
    have hN3 := Lib.hid (hN2.out.next hn3)
    have hb7 := Lib.hid (hb5.out.new hn3)
    have hb8 := Lib.hid (hb6.out.new hn3)
    clear hn3 hL0 d4
    go_wp2_with fail
    refine (f0.out 5 (by omega) _ hc1.out hrd4.out).mono ?_
    rintro e wq ⟨rfl, rfl⟩
    go_wp2_with fail
    refine (f0.out 6 (by omega) _ hc1.out hrd4.out).mono ?_
    rintro e wq ⟨rfl, rfl⟩
    go_wp2_with fail
    refine (f0.out 7 (by omega) _ hc1.out hrd4.out).mono ?_
    rintro e wq ⟨rfl, rfl⟩
    go_wp2_with fail
    refine (f0.out 8 (by omega) _ hc1.out hrd4.out).mono ?_
    rintro e wq ⟨rfl, rfl⟩
    go_wp2_with fail
    refine (f1.out 0 (by omega) _ hc1.out hrd4.out).mono ?_
    rintro e wq ⟨rfl, rfl⟩
    go_wp2_with fail
    refine (f1.out 1 (by omega) _ hc1.out hrd4.out).mono ?_
    rintro e wq ⟨rfl, rfl⟩
    go_wp2_with fail
    refine (f1.out 2 (by omega) _ hc1.out hrd4.out).mono ?_
    rintro e wq ⟨rfl, rfl⟩
    go_wp2_with fail
    refine (f1.out 3 (by omega) _ hc1.out hrd4.out).mono ?_
    rintro e wq ⟨rfl, rfl⟩
    go_wp2
    obtain ⟨W3, hW3⟩ : ∃ W3, W3 = w2.alloc (.cells (labC X) 41) := ⟨_, rfl⟩
    rw [← hW3]
    have hn3 := (New.refl w2).alloc (.cells (labC X) 41)
    have hL0 := Blk.fresh w2 41 (labC X)
    have hbx0 := hb5.out.new hn3
    have hbr0 := hb6.out.new hn3
    have hN40 := hN2.out.next hn3
    rw [← hW3] at hn3 hL0 hbx0 hbr0 hN40
    clear hW3 hL1 hc1 hrd4 hN3 hb7 hb8 hn3
    obtain ⟨L, hL⟩ : ∃ L, L = w2.heap.size := ⟨_, rfl⟩
    rw [← hL] at hL0 ⊢
    have hbx := Lib.hid hbx0
    have hbr := Lib.hid hbr0
    have hbL := Lib.hid hL0
    have hN4 := Lib.hid hN40
    obtain ⟨l0, l1, l2, l3, l4, l5, l6, l7, l8, l9, l10, l11, l12⟩ := cells13 hL0
    have d4 : W3.cell? ⟨w.heap.size, 0, none⟩ = some (.slice (some ⟨b, off, none⟩) 128 c) := hbx.out.cell 0
    have hkeep : Hid (∀ w', New W3 w' → New W3 w' ∧ w'.cell? ⟨L, 0, none⟩ = some (.int .i64 (X 0)) ∧ w'.cell? ⟨L, 1, none⟩ = some (.int .i64 (X 1)) ∧ w'.cell? ⟨L, 2, none⟩ = some (.int .i64 (X 2)) ∧ w'.cell? ⟨L, 3, none⟩ = some (.int .i64 (X 3)) ∧ w'.cell? ⟨L, 4, none⟩ = some (.int .i64 (X 4)) ∧ w'.cell? ⟨L, 5, none⟩ = some (.int .i64 (X 5)) ∧ w'.cell? ⟨L, 6, none⟩ = some (.int .i64 (X 6)) ∧ w'.cell? ⟨L, 7, none⟩ = some (.int .i64 (X 7)) ∧ w'.cell? ⟨L, 8, none⟩ = some (.int .i64 (X 8)) ∧ w'.cell? ⟨L, 9, none⟩ = some (.int .i64 (X 9)) ∧ w'.cell? ⟨L, 10, none⟩ = some (.int .i64 (X 10)) ∧ w'.cell? ⟨L, 11, none⟩ = some (.int .i64 (X 11)) ∧ w'.cell? ⟨L, 12, none⟩ = some (.int .i64 (X 12)) ∧ w'.cell? ⟨w.heap.size, 0, none⟩ = some (.slice (some ⟨b, off, none⟩) 128 c)) := fun w' h =>
      ⟨h, (h.cell (lt_of_cell l0)).trans l0, (h.cell (lt_of_cell l1)).trans l1, (h.cell (lt_of_cell l2)).trans l2, (h.cell (lt_of_cell l3)).trans l3, (h.cell (lt_of_cell l4)).trans l4, (h.cell (lt_of_cell l5)).trans l5, (h.cell (lt_of_cell l6)).trans l6, (h.cell (lt_of_cell l7)).trans l7, (h.cell (lt_of_cell l8)).trans l8, (h.cell (lt_of_cell l9)).trans l9, (h.cell (lt_of_cell l10)).trans l10, (h.cell (lt_of_cell l11)).trans l11, (h.cell (lt_of_cell l12)).trans l12, (h.cell (lt_of_cell d4)).trans d4⟩
    have hstep : Hid (∀ a b', (New W3 a ∧ a.cell? ⟨L, 0, none⟩ = some (.int .i64 (X 0)) ∧ a.cell? ⟨L, 1, none⟩ = some (.int .i64 (X 1)) ∧ a.cell? ⟨L, 2, none⟩ = some (.int .i64 (X 2)) ∧ a.cell? ⟨L, 3, none⟩ = some (.int .i64 (X 3)) ∧ a.cell? ⟨L, 4, none⟩ = some (.int .i64 (X 4)) ∧ a.cell? ⟨L, 5, none⟩ = some (.int .i64 (X 5)) ∧ a.cell? ⟨L, 6, none⟩ = some (.int .i64 (X 6)) ∧ a.cell? ⟨L, 7, none⟩ = some (.int .i64 (X 7)) ∧ a.cell? ⟨L, 8, none⟩ = some (.int .i64 (X 8)) ∧ a.cell? ⟨L, 9, none⟩ = some (.int .i64 (X 9)) ∧ a.cell? ⟨L, 10, none⟩ = some (.int .i64 (X 10)) ∧ a.cell? ⟨L, 11, none⟩ = some (.int .i64 (X 11)) ∧ a.cell? ⟨L, 12, none⟩ = some (.int .i64 (X 12)) ∧ a.cell? ⟨w.heap.size, 0, none⟩ = some (.slice (some ⟨b, off, none⟩) 128 c)) → New a b' → (New W3 b' ∧ b'.cell? ⟨L, 0, none⟩ = some (.int .i64 (X 0)) ∧ b'.cell? ⟨L, 1, none⟩ = some (.int .i64 (X 1)) ∧ b'.cell? ⟨L, 2, none⟩ = some (.int .i64 (X 2)) ∧ b'.cell? ⟨L, 3, none⟩ = some (.int .i64 (X 3)) ∧ b'.cell? ⟨L, 4, none⟩ = some (.int .i64 (X 4)) ∧ b'.cell? ⟨L, 5, none⟩ = some (.int .i64 (X 5)) ∧ b'.cell? ⟨L, 6, none⟩ = some (.int .i64 (X 6)) ∧ b'.cell? ⟨L, 7, none⟩ = some (.int .i64 (X 7)) ∧ b'.cell? ⟨L, 8, none⟩ = some (.int .i64 (X 8)) ∧ b'.cell? ⟨L, 9, none⟩ = some (.int .i64 (X 9)) ∧ b'.cell? ⟨L, 10, none⟩ = some (.int .i64 (X 10)) ∧ b'.cell? ⟨L, 11, none⟩ = some (.int .i64 (X 11)) ∧ b'.cell? ⟨L, 12, none⟩ = some (.int .i64 (X 12)) ∧ b'.cell? ⟨w.heap.size, 0, none⟩ = some (.slice (some ⟨b, off, none⟩) 128 c))) := fun a b' ha h => hkeep.out b' (ha.1.next h)
    have hXb : Hid (∀ i, i < 13 → i64P (X i)) := fun i hi => by rw [hX.out]; exact numX_bd B hr0.out.2.1 i hi
    clear hL0 hbx0 hbr0 hN40 hL hb5 hb6
    by_cases hok : okX X
    · have hd : Hid (decide (okP (X 0) (X 1) (X 2) (X 3) (X 4) (X 5) (X 6) (X 7) (X 8)) = true) := decide_eq_true hok
      have hok0 := Lib.hid hok
      clear hok
      go_region_held3 (fun w' => New W3 w' ∧ w'.cell? ⟨L, 0, none⟩ = some (.int .i64 (X 0)) ∧ w'.cell? ⟨L, 1, none⟩ = some (.int .i64 (X 1)) ∧ w'.cell? ⟨L, 2, none⟩ = some (.int .i64 (X 2)) ∧ w'.cell? ⟨L, 3, none⟩ = some (.int .i64 (X 3)) ∧ w'.cell? ⟨L, 4, none⟩ = some (.int .i64 (X 4)) ∧ w'.cell? ⟨L, 5, none⟩ = some (.int .i64 (X 5)) ∧ w'.cell? ⟨L, 6, none⟩ = some (.int .i64 (X 6)) ∧ w'.cell? ⟨L, 7, none⟩ = some (.int .i64 (X 7)) ∧ w'.cell? ⟨L, 8, none⟩ = some (.int .i64 (X 8)) ∧ w'.cell? ⟨L, 9, none⟩ = some (.int .i64 (X 9)) ∧ w'.cell? ⟨L, 10, none⟩ = some (.int .i64 (X 10)) ∧ w'.cell? ⟨L, 11, none⟩ = some (.int .i64 (X 11)) ∧ w'.cell? ⟨L, 12, none⟩ = some (.int .i64 (X 12)) ∧ w'.cell? ⟨w.heap.size, 0, none⟩ = some (.slice (some ⟨b, off, none⟩) 128 c))
        (first
          | exact hkeep.out _ (New.refl _).drew
          | assumption
          | exact hstep.out _ _ (by assumption) hn2)
        (first
          | (go_at_call 56; refine (LabelMay_any (X 0) (X 1) (X 2) (X 3) (X 4) (X 5) (X 6) (X 7) (X 8) (X 9) (X 10) (X 11) (X 12) _).mono ?_; rw [hd.out]; rintro e w4 ⟨rfl, hn2⟩)
          | (go_at_call 57; refine (labelBytes_any X _ hXb.out).mono ?_; rintro e w5 ⟨v5, rfl, hown5, hn2⟩; obtain ⟨A5, k5, rfl, _, _, hrd5, _⟩ := own_rdB hown5 (fun i _ => labF_lt _ _ _) (by unfold maxLen; omega); clear hown5)
          | (go_at_call 62; refine (sameBytes_any _ _ 96 _ _ (labF X fun _ => 0) B _ hrd5 (rdB_head (hr0.out.new (hN4.out.next (And.left ‹New W3 w5 ∧ _›))) (by omega)) (by omega)).mono ?_; rintro e w6 ⟨rfl, rfl⟩))
      have hN5 := Lib.hid (hN4.out.next (And.left ‹New W3 w5 ∧ _›))
      have hb9 := hbr.out.new (And.left ‹New W3 w5 ∧ _›)
      have hbL9 := hbL.out.new (And.left ‹New W3 w5 ∧ _›)
      clear ‹New W3 w5 ∧ _› hn2 hrd5 hkeep hstep l0 l1 l2 l3 l4 l5 l6 l7 l8 l9 l10 l11 l12 d4
      cases hE2 : eqB (labF X fun _ => 0) B 96 with
      | true =>
        have hgood : Hid (decCode 128 B = 0) := dec_good hsl.out ⟨by rw [← hX.out]; exact hok0.out, fun i hi => by
          have := eqB_out hE2 i hi
          rw [hX.out] at this
          exact this⟩
        have hcd0 : cd = 0 := hcd.out.trans hgood.out
        have hRX : Hid (R = labC X) := by rw [hR.out, decX_good hgood.out, hX.out]; exact (rfl : _ = _)
        subst hcd0
        obtain ⟨l0, l1, l2, l3, l4, l5, l6, l7, l8, l9, l10, l11, l12⟩ := cells13 hbL9
        have hb10 := Lib.hid hb9
        clear hb9 hbL9 hE2
        go_wp2_with (refine wpList_store_row rfl 41 _ _ rfl (w.heap.size + 1) (labC X) rfl rfl 41 zero13 hb10.out (by kernel_rfl) rfl (labC_one X) ?_)
        exact bodyPost_ret (v := .tuple #[.agg (labC X), .int .i64 0]) (results_cell_slot Try.results33 _ _ (w.heap.size + 1) 41 (labC X) _ rfl (hb10.out.row (labC X)) Try.underlying41 rfl (by kernel_rfl)) rfl ⟨by rw [hRX.out], hN5.out.row (g := w.heap.size + 1) (by omega) (labC X)⟩
      | false =>
        have hbad : Hid (decCode 128 B = 4) := dec_bad hsl.out fun h => by
          have h2 : eqB (labF X fun _ => 0) B 96 = true := eqB_true (by rw [hX.out]; exact h.2)
          rw [hE2] at h2
          cases h2
        have hcd4 : cd = 4 := hcd.out.trans hbad.out
        have hRX : Hid (R = zero13) := by rw [hR.out, decX_bad (by rw [hbad.out]; decide)]; exact (rfl : _ = _)
        subst hcd4
        have hb10 := Lib.hid hb9
        clear hb9 hbL9 hE2
        go_wp2_with (refine wpList_store_row rfl 41 _ _ rfl (w.heap.size + 1) zero13 rfl rfl 41 zero13 hb10.out (by kernel_rfl) rfl zero13_one ?_)
        exact bodyPost_ret (v := .tuple #[.agg zero13, .int .i64 4]) (results_cell_slot Try.results33 _ _ (w.heap.size + 1) 41 zero13 _ rfl (hb10.out.row zero13) Try.underlying41 rfl (by kernel_rfl)) rfl ⟨by rw [hRX.out], hN5.out.row (g := w.heap.size + 1) (by omega) zero13⟩
    · have hd : Hid (decide (okP (X 0) (X 1) (X 2) (X 3) (X 4) (X 5) (X 6) (X 7) (X 8)) = false) := decide_eq_false hok
      have hok0 := Lib.hid hok
      clear hok
      have hmay : Hid (∀ w', Calls Try.prog 56 #[.agg (labC X)] w' fun e w'' => e = .returned (.bool false) ∧ New w' w'') := fun w' => by
        have := LabelMay_any (X 0) (X 1) (X 2) (X 3) (X 4) (X 5) (X 6) (X 7) (X 8) (X 9) (X 10) (X 11) (X 12) w'
        rw [hd.out] at this
        exact this
      have k0 := NewW.keep l0
      have k1 := NewW.keep l1
      have k2 := NewW.keep l2
      have k3 := NewW.keep l3
      have k4 := NewW.keep l4
      have k5 := NewW.keep l5
      have k6 := NewW.keep l6
      have k7 := NewW.keep l7
      have k8 := NewW.keep l8
      have k9 := NewW.keep l9
      have k10 := NewW.keep l10
      have k11 := NewW.keep l11
      have k12 := NewW.keep l12
      clear l0 l1 l2 l3 l4 l5 l6 l7 l8 l9 l10 l11 l12 d4
      (refine wp_region_quiet_new (by kernel_rfl) (by kernel_rfl) ?_; (repeat (first | go_big_quiet_step (first | (go_at_call 56; exact NewW.call _ (hmay.out _))) | quiet_step (first | (go_at_call 56; exact NewW.call _ (hmay.out _))))); refine wpQuiet_nil ?_; rintro W5 ⟨⟨_, hn_W5⟩, rfl⟩)
      have hbad : Hid (decCode 128 B = 4) := dec_bad hsl.out fun h => hok0.out (by rw [hX.out]; exact h.1)
      have hcd4 : cd = 4 := hcd.out.trans hbad.out
      have hRX : Hid (R = zero13) := by rw [hR.out, decX_bad (by rw [hbad.out]; decide)]; exact (rfl : _ = _)
      subst hcd4
      have hb9 := Lib.hid (hbr.out.new hn_W5)
      have hN9 := Lib.hid (hN4.out.next hn_W5)
      clear hn_W5 k0 k1 k2 k3 k4 k5 k6 k7 k8 k9 k10 k11 k12
      go_wp2_with (refine wpList_store_row rfl 41 _ _ rfl (w.heap.size + 1) zero13 rfl rfl 41 zero13 hb9.out (by kernel_rfl) rfl zero13_one ?_)
      exact bodyPost_ret (v := .tuple #[.agg zero13, .int .i64 4]) (results_cell_slot Try.results33 _ _ (w.heap.size + 1) 41 zero13 _ rfl (hb9.out.row zero13) Try.underlying41 rfl (by kernel_rfl)) rfl ⟨by rw [hRX.out], hN9.out.row (g := w.heap.size + 1) (by omega) zero13⟩
end Go.Proofs.Ythkgcbjfgglciaa.label
