/-
  Contracts of the reference's LabelEncoded and of its parts; sameBytes.
-/
import Derived.Test.YthkgcbjfgglciaaLabelEnc
namespace Go.Proofs.Ythkgcbjfgglciaa.label
open Go.ChangeShapes Go.WideShapes Go.ChangeAt Go.RowKit Go.Proofs.Ythkgcbjfgglciaa.kit Go.Proofs.Ythkgcbjfgglciaa.flet Go.Deep
set_option linter.unusedVariables false

theorem bytes_one (F : Nat → Nat) (n : Nat) : ∀ u ∈ rowN F n, u.oneCell' = true := by
  intro u hu
  simp [rowN] at hu
  obtain ⟨i, _, rfl⟩ := hu
  rfl
/-- four numbers as bytes -/
def sumB (s : Nat → Int) (i : Nat) : Nat := lowB (s (i / 8)) (i % 8)
theorem sumB_at (s : Nat → Int) (m q : Nat) (hq : q < 8) : sumB s (8 * m + q) = lowB (s m) q := by
  unfold sumB
  rw [show (8 * m + q) / 8 = m by omega, show (8 * m + q) % 8 = q by omega]
/-- an own row of bytes, opened for append -/
theorem own_news {w : World} {base : Nat} {v : Value} {n : Nat} {t : TypeId} {F : Nat → Nat} (h : w.ownsRow base t 1 v n (rowN F n)) (h0 : 0 < n) :
    ∃ g c, v = .slice (some ⟨g, 0, none⟩) n c ∧ base ≤ g ∧ ∀ j u, (rowN F n)[j]? = some u → w.cell? ((⟨g, 0, none⟩ : Addr).add j) = some u := by
  obtain ⟨A, c, rfl, h1, h2, h3, h4⟩ := own_open h
  obtain ⟨g, rfl, hb, _⟩ := h3 h0
  exact ⟨g, c, rfl, hb, fun j u hj => by rw [add_cell, Nat.zero_add]; exact h4 g rfl j u hj⟩
set_option maxRecDepth 100000 in
theorem sumBytes_any (s : Nat → Int) (w : World) (hs : ∀ j, j < 4 → i64P (s j)) :
    Calls Try.prog 59 #[.agg #[.int .i64 (s 0), .int .i64 (s 1), .int .i64 (s 2), .int .i64 (s 3)]] w fun e w' => ∃ v, e = .returned v ∧ w'.ownsRow w.heap.size 5 1 v 32 (rowN (sumB s) 32) ∧ New w w' := by
  obtain ⟨i0, hi0, hz0, hz1, hz2⟩ := info_parts infoU8
  have hs0 := Lib.hid hs
  clear hs
  have h8 := Lib.hid (rowN_same (F := lowB (s 0)) (G := sumB s) (n := 8) fun k hk => by have := sumB_at s 0 k hk; simpa using this.symm)
  have h16 := Lib.hid (rowN_app (sumB s) (lowB (s 1)) 8 8 fun k hk => sumB_at s 1 k hk)
  have h24 := Lib.hid (rowN_app (sumB s) (lowB (s 2)) 16 8 fun k hk => sumB_at s 2 k hk)
  have h32 := Lib.hid (rowN_app (sumB s) (lowB (s 3)) 24 8 fun k hk => sumB_at s 3 k hk)
  have hbx := Blk.fresh w 37 #[.int .i64 (s 0), .int .i64 (s 1), .int .i64 (s 2), .int .i64 (s 3)]
  have hN := Lib.hid ((New.refl w).alloc (.cells #[.int .i64 (s 0), .int .i64 (s 1), .int .i64 (s 2), .int .i64 (s 3)] 37))
  go_enter Try.func59, Try.ntmps59
  go_wp2_with fail
  refine (lowFirst_any 8 (s 0) _ (by omega) (hs0.out 0 (by omega)).1 (hs0.out 0 (by omega)).2).mono ?_
  rintro e w1 ⟨v1, rfl, hown1, hn1⟩
  have hb1 := hbx.new hn1
  have hN1 := Lib.hid (hN.out.next hn1)
  have c1 := hb1.cell 1
  simp at c1
  have hown1 : w1.ownsRow (w.heap.size + 1) 5 1 v1 8 (rowN (sumB s) 8) := by rw [← h8.out]; exact own_mono hown1 (by simp)
  clear hn1 hbx
  go_wp2_with fail
  refine (lowFirst_any 8 (s 1) _ (by omega) (hs0.out 1 (by omega)).1 (hs0.out 1 (by omega)).2).mono ?_
  rintro e w2 ⟨v2, rfl, hown2, hn2⟩
  obtain ⟨g2, k2, rfl, hg2, hcs2⟩ := own_news hown2 (by omega)
  have hown1' := Lib.hid (own_new hown1 hn2)
  have hne1 := Lib.hid (own_far hown1'.out (Nat.lt_succ_self w.heap.size))
  have hb2 := hb1.new hn2
  have hN2 := Lib.hid (hN1.out.next hn2)
  have hcs2' := Lib.hid hcs2
  have hbb2 := Lib.hid hb2
  clear hown1 hown2 hb1 hb2 hn2 hcs2 c1
  go_wp2_with (at_builtin; refine wpList_append_own _ rfl _ _ 42 rfl (w.heap.size + 1) 5 i0 _ 1 1 Try.underlying42 hi0 hz0 hz1 hz2 rfl (by decide) v1 8 (rowN (sumB s) 8) rfl hown1'.out ⟨g2, 0, none⟩ 8 k2 (rowN (lowB (s 1)) 8) rfl (rowN_len _ _) hcs2'.out (bytes_one _ _) (by unfold maxLen; omega) (by omega) (by have := hbb2.out.lt; omega) ?_; intro v3 w3 hown3 hgrow hnil; have c2 := Blk.cell_grown hbb2.out hgrow hne1.out 2 rfl)
  have hN3 := Lib.hid (hN2.out.appendO hown1'.out (by omega) hgrow)
  rw [h16.out] at hown3
  have hb3 := hbb2.out.grown hgrow hne1.out
  clear hgrow hnil hown1' hbb2 hcs2'
  go_wp2_with fail
  refine (lowFirst_any 8 (s 2) _ (by omega) (hs0.out 2 (by omega)).1 (hs0.out 2 (by omega)).2).mono ?_
  rintro e w4 ⟨v4, rfl, hown4, hn4⟩
  obtain ⟨g4, k4, rfl, hg4, hcs4⟩ := own_news hown4 (by omega)
  have hown3' := Lib.hid (own_new hown3 hn4)
  have hne3 := Lib.hid (own_far hown3'.out (Nat.lt_succ_self w.heap.size))
  have hb4 := hb3.new hn4
  have hN4 := Lib.hid (hN3.out.next hn4)
  have hcs4' := Lib.hid hcs4
  have hbb4 := Lib.hid hb4
  clear hown3 hown4 hb3 hb4 hn4 hcs4 c2
  go_wp2_with (at_builtin; refine wpList_append_own _ rfl _ _ 42 rfl (w.heap.size + 1) 5 i0 _ 1 1 Try.underlying42 hi0 hz0 hz1 hz2 rfl (by decide) v3 16 (rowN (sumB s) 16) rfl hown3'.out ⟨g4, 0, none⟩ 8 k4 (rowN (lowB (s 2)) 8) rfl (rowN_len _ _) hcs4'.out (bytes_one _ _) (by unfold maxLen; omega) (by omega) (by have := hbb4.out.lt; omega) ?_; intro v5 w5 hown5 hgrow hnil; have c3 := Blk.cell_grown hbb4.out hgrow hne3.out 3 rfl)
  have hN5 := Lib.hid (hN4.out.appendO hown3'.out (by omega) hgrow)
  rw [h24.out] at hown5
  have hb5 := hbb4.out.grown hgrow hne3.out
  clear hgrow hnil hown3' hbb4 hcs4'
  go_wp2_with fail
  refine (lowFirst_any 8 (s 3) _ (by omega) (hs0.out 3 (by omega)).1 (hs0.out 3 (by omega)).2).mono ?_
  rintro e w6 ⟨v6, rfl, hown6, hn6⟩
  obtain ⟨g6, k6, rfl, hg6, hcs6⟩ := own_news hown6 (by omega)
  have hown5' := Lib.hid (own_new hown5 hn6)
  have hb6 := hb5.new hn6
  have hN6 := Lib.hid (hN5.out.next hn6)
  have hcs6' := Lib.hid hcs6
  have hbb6 := Lib.hid hb6
  clear hown5 hown6 hb5 hb6 hn6 hcs6 c3
  go_wp2_with (at_builtin; refine wpList_append_own _ rfl _ _ 42 rfl (w.heap.size + 1) 5 i0 _ 1 1 Try.underlying42 hi0 hz0 hz1 hz2 rfl (by decide) v5 24 (rowN (sumB s) 24) rfl hown5'.out ⟨g6, 0, none⟩ 8 k6 (rowN (lowB (s 3)) 8) rfl (rowN_len _ _) hcs6'.out (bytes_one _ _) (by unfold maxLen; omega) (by omega) (by have := hbb6.out.lt; omega) ?_; intro v7 w7 hown7 hgrow hnil)
  have hN7 := Lib.hid (hN6.out.appendO hown5'.out (by omega) hgrow)
  rw [h32.out] at hown7
  go_wp2
  go_ret
  exact ⟨_, rfl, own_mono hown7 (by omega), hN7.out⟩
theorem infoI64 : (Try.prog.info? 3).map (fun i => (i.zero, i.size, i.bytes)) = some (some (.int .i64 0), 1, 8) := by kernel_rfl
set_option maxRecDepth 100000 in
theorem labelBytes_any (X : Nat → Int) (w : World) (hX : ∀ i, i < 13 → i64P (X i)) :
    Calls Try.prog 57 #[.agg (labC X)] w fun e w' => ∃ v, e = .returned v ∧ w'.ownsRow w.heap.size 5 1 v 96 (rowN (labF X fun _ => 0) 96) ∧ New w w' := by
  obtain ⟨i0, hi0, hz0, hz1, hz2⟩ := info_parts infoU8
  have hX0 := Lib.hid hX
  clear hX
  obtain ⟨F, hF⟩ : ∃ F, Hid (F = labF X fun _ => 0) := ⟨_, (rfl : _ = _)⟩
  rw [← hF.out]
  have hbx := Blk.fresh w 41 (labC X)
  have hN := ((New.refl w).alloc (.cells (labC X) 41)).alloc (.cells #[.int .i64 (X 0), .int .i64 (X 1), .int .i64 (X 2), .int .i64 (X 3), .int .i64 (X 4), .int .i64 (X 5), .int .i64 (X 6), .int .i64 (X 7), .int .i64 (X 8)] 3)
  have hl0 := Blk.fresh (w.alloc (.cells (labC X) 41)) 3 #[.int .i64 (X 0), .int .i64 (X 1), .int .i64 (X 2), .int .i64 (X 3), .int .i64 (X 4), .int .i64 (X 5), .int .i64 (X 6), .int .i64 (X 7), .int .i64 (X 8)]
  have hbx := hbx.alloc (.cells #[.int .i64 (X 0), .int .i64 (X 1), .int .i64 (X 2), .int .i64 (X 3), .int .i64 (X 4), .int .i64 (X 5), .int .i64 (X 6), .int .i64 (X 7), .int .i64 (X 8)] 3)
  rw [show (w.alloc (.cells (labC X) 41)).heap.size = w.heap.size + 1 by simp] at hl0
  have hat : Hid (∀ k, k < 9 → (#[.int .i64 (X 0), .int .i64 (X 1), .int .i64 (X 2), .int .i64 (X 3), .int .i64 (X 4), .int .i64 (X 5), .int .i64 (X 6), .int .i64 (X 7), .int .i64 (X 8)] : Array Value)[k]? = some (.int .i64 (X k))) := fun k hk => by
    match k, hk with
    | 0, _ => rfl
    | 1, _ => rfl
    | 2, _ => rfl
    | 3, _ => rfl
    | 4, _ => rfl
    | 5, _ => rfl
    | 6, _ => rfl
    | 7, _ => rfl
    | 8, _ => rfl
  have hbx0 := Lib.hid hbx
  have hl1 := Lib.hid hl0
  have hN0 := Lib.hid hN
  clear hbx hl0 hN
  go_enter Try.func57, Try.ntmps57
  go_wp2
  go_loopw [3, 30] (fun v c wr => ∃ (k : Nat) (sv : Value), sv = v ∧ c = .int .i64 k ∧ k ≤ 9 ∧ wr.ownsRow (w.heap.size + 2) 5 1 sv (4 * k) (rowN F (4 * k)) ∧ Blk wr w.heap.size 41 (labC X) ∧ Blk wr (w.heap.size + 1) 3 #[.int .i64 (X 0), .int .i64 (X 1), .int .i64 (X 2), .int .i64 (X 3), .int .i64 (X 4), .int .i64 (X 5), .int .i64 (X 6), .int .i64 (X 7), .int .i64 (X 8)] ∧ New w wr) (fun _ c _ => 9 - (intOf c).toNat)
  case atStart => exact ⟨0, _, rfl, rfl, by omega, World.ownsRow_nil _ _ _ _, hbx0.out, hl1.out, hN0.out⟩
  case round =>
    obtain ⟨k, sv, rfl, rfl, hk, hown, hbx, hlk, hnw⟩ := hrel
    have hs2 : w.heap.size + 1 < wr.heap.size := hlk.lt
    by_cases hlt : k < 9
    · have hki : (k : Int) < 9 := by omega
      have c0 : wr.cell? ⟨w.heap.size + 1, k, none⟩ = some (.int .i64 (X k)) := by rw [hlk.cell k]; exact hat.out k hlt
      have hbx1 := Lib.hid hbx
      have hlk1 := Lib.hid hlk
      have hnw1 := Lib.hid hnw
      have hown1 := Lib.hid hown
      have happ := Lib.hid (rowN_app F (lowB (X k)) (4 * k) 4 fun q hq => by rw [hF.out]; exact labF_field X _ k q hlt hq)
      clear hbx hlk hnw hown
      go_wp2_with fail
      refine (lowFirst_any 4 (X k) _ (by omega) (hX0.out k (by omega)).1 (hX0.out k (by omega)).2).mono ?_
      rintro e w2 ⟨v2, rfl, hown2, hn2⟩
      obtain ⟨g2, k2, rfl, hg2, hcs2⟩ := own_news hown2 (by omega)
      have hown3 := Lib.hid (own_new hown1.out hn2)
      have hcs3 := Lib.hid hcs2
      have hbx2 := Lib.hid (hbx1.out.new hn2)
      have hlk2 := Lib.hid (hlk1.out.new hn2)
      have hnw2 := Lib.hid (hnw1.out.next hn2)
      have hs3 : w.heap.size + 1 < w2.heap.size := hlk2.out.lt
      clear hown2 hcs2 hn2 c0
      go_wp2_with (at_builtin; refine wpList_append_own _ rfl _ _ 42 rfl (w.heap.size + 2) 5 i0 _ 1 1 Try.underlying42 hi0 hz0 hz1 hz2 rfl (by decide) sv (4 * k) (rowN F (4 * k)) rfl hown3.out ⟨g2, 0, none⟩ 4 k2 (rowN (lowB (X k)) 4) rfl (rowN_len _ _) hcs3.out (bytes_one _ _) (by unfold maxLen; omega) (by omega) (by omega) ?_; intro v3 w3 hown4 hgrow hnil)
      have hbx3 := Lib.hid (hbx2.out.grown hgrow (own_far hown3.out (by omega)))
      have hlk3 := Lib.hid (hlk2.out.grown hgrow (own_far hown3.out (by omega)))
      have hnw3 := Lib.hid (hnw2.out.appendO hown3.out (by omega) hgrow)
      rw [happ.out] at hown4
      clear hgrow hnil
      go_wp2
      go_roundw
      case rel => exact ⟨k + 1, _, rfl, by go_num, by omega, by rw [Nat.mul_add]; exact hown4, hbx3.out, hlk3.out, hnw3.out⟩
      case measure => simp [intOf]; omega
    · have hk9 : k = 9 := by omega
      subst hk9
      have hbx1 := Lib.hid hbx
      have hnw1 := Lib.hid hnw
      have hown1 := Lib.hid hown
      have c9 := hbx.cell 9
      have c10 := hbx.cell 10
      have c11 := hbx.cell 11
      have c12 := hbx.cell 12
      simp at c9 c10 c11 c12
      clear hbx hlk hnw hown
      have happ := Lib.hid (rowN_app F (sumB fun j => X (9 + j)) 36 32 fun q hq => by
        rw [hF.out]
        have := labF_sum X (fun _ => 0) (q / 8) (q % 8) (by omega) (by omega)
        rw [show 36 + 8 * (q / 8) + q % 8 = 36 + q by omega] at this
        rw [this]; rfl)
      have hz := Lib.hid (rowN_zero F 68 28 fun q hq => by rw [hF.out]; exact labF_zero X _ (68 + q) (by omega) (by omega))
      go_wp2_with fail
      refine (sumBytes_any (fun j => X (9 + j)) _ fun j hj => hX0.out (9 + j) (by omega)).mono ?_
      rintro e w2 ⟨v2, rfl, hown2, hn2⟩
      obtain ⟨g2, k2, rfl, hg2, hcs2⟩ := own_news hown2 (by omega)
      have hown3 := Lib.hid (own_new hown1.out hn2)
      have hcs3 := Lib.hid hcs2
      have hnw2 := Lib.hid (hnw1.out.next hn2)
      have hs3 : w.heap.size + 1 < w2.heap.size := by have := hn2.size; omega
      clear hown2 hcs2 hn2 c9 c10 c11 c12
      go_wp2_with (first | (at_builtin; refine wpList_append_own _ rfl _ _ 42 rfl (w.heap.size + 2) 5 i0 _ 1 1 Try.underlying42 hi0 hz0 hz1 hz2 rfl (by decide) sv 36 (rowN F 36) rfl hown3.out ⟨g2, 0, none⟩ 32 k2 (rowN (sumB fun j => X (9 + j)) 32) rfl (rowN_len _ _) hcs3.out (bytes_one _ _) (by unfold maxLen; omega) (by omega) (by omega) ?_; intro v3 w3 hown4 hgrow hnil; have hown4 := happ.out ▸ hown4; have hs4 := hgrow.size; obtain ⟨A3, c3, rfl, _⟩ := own_open hown4; have hown5 := Lib.hid hown4; clear hown4) | (at_builtin; refine wpList_append_zeros _ (w.heap.size + 2) rfl _ _ 42 3 rfl 5 i0 (.int .u8 0) 1 .i64 .i64 Try.underlying42 Try.underlying3 hi0 hz0 hz1 hz2 rfl rfl (.slice A3 68 c3) 68 (rowN F 68) hown5.out 28 (by omega) (by unfold maxLen; omega) (by omega) (by omega) rfl rfl ?_; intro v4 w4 hown6 hgrow6))
      have hnw3 := hnw2.out.appendO hown3.out (by omega) hgrow
      have hnw4 := Lib.hid (hnw3.appendO hown5.out (by omega) hgrow6)
      rw [hz.out] at hown6
      have hown7 := Lib.hid hown6
      clear hgrow hgrow6 hown6
      go_wp2
      go_ret
      exact ⟨_, rfl, own_mono hown7.out (by omega), hnw4.out⟩
theorem LabelEncoded_bad (X : Nat → Int) (w : World) (h : ¬ okX X) :
    Calls Try.prog 29 #[.agg (labC X)] w fun e w' => e = .returned (.tuple #[.slice none 0 0, .int .i64 4]) ∧ New w w' := by
  have hd : decide (okP (X 0) (X 1) (X 2) (X 3) (X 4) (X 5) (X 6) (X 7) (X 8)) = false := decide_eq_false h
  go_enter Try.func29, Try.ntmps29
  go_wp2_with fail
  refine (LabelMay_any (X 0) (X 1) (X 2) (X 3) (X 4) (X 5) (X 6) (X 7) (X 8) (X 9) (X 10) (X 11) (X 12) _).mono ?_
  rw [hd]
  clear hd
  rintro e w1 ⟨rfl, hn⟩
  go_wp2
  go_ret2
  exact ⟨rfl, hn.of_alloc⟩
set_option maxRecDepth 100000 in
theorem LabelEncoded_ok (X : Nat → Int) (w : World) (h : okX X) (hX : ∀ i, i < 13 → i64P (X i)) :
    Calls Try.prog 29 #[.agg (labC X)] w fun e w' => ∃ A c, e = .returned (.tuple #[.slice A 128 c, .int .i64 0]) ∧ RdB w' A 128 (labF X (sealX X)) ∧ New w w' := by
  obtain ⟨i0, hi0, hz0, hz1, hz2⟩ := info_parts infoU8
  have hd : decide (okP (X 0) (X 1) (X 2) (X 3) (X 4) (X 5) (X 6) (X 7) (X 8)) = true := decide_eq_true h
  have hX0 := Lib.hid hX
  have hbox := Blk.fresh w 41 (labC X)
  clear h hX
  go_enter Try.func29, Try.ntmps29
  go_wp2_with fail
  refine (LabelMay_any (X 0) (X 1) (X 2) (X 3) (X 4) (X 5) (X 6) (X 7) (X 8) (X 9) (X 10) (X 11) (X 12) _).mono ?_
  rw [hd]
  clear hd
  rintro e w1 ⟨rfl, hn1⟩
  have hbx := hbox.new hn1
  have hbx1 := Lib.hid hbx
  have hN1 := Lib.hid hn1.of_alloc
  have c0 := hbx.cell 0
  have c1 := hbx.cell 1
  have c2 := hbx.cell 2
  have c3 := hbx.cell 3
  have c4 := hbx.cell 4
  have c5 := hbx.cell 5
  have c6 := hbx.cell 6
  have c7 := hbx.cell 7
  have c8 := hbx.cell 8
  have c9 := hbx.cell 9
  have c10 := hbx.cell 10
  have c11 := hbx.cell 11
  have c12 := hbx.cell 12
  simp at c0 c1 c2 c3 c4 c5 c6 c7 c8 c9 c10 c11 c12
  clear hbox hn1 hbx
  go_wp2_with fail
  refine (labelBytes_any X _ hX0.out).mono ?_
  rintro e w2 ⟨v2, rfl, hown2, hn2⟩
  clear c0 c1 c2 c3 c4 c5 c6 c7 c8 c9 c10 c11 c12
  have hN2 := Lib.hid (hN1.out.next hn2)
  obtain ⟨A2, k2, rfl, _, _, hrd2, _⟩ := own_rdB hown2 (fun i _ => labF_lt X _ i) (by unfold maxLen; omega)
  have hown2' := Lib.hid (own_mono hown2 hN1.out.size)
  have hrd2' := Lib.hid hrd2
  have hcap : 96 ≤ k2 := by assumption
  clear hn2 hown2 hrd2
  go_wp2_with fail
  refine (SumMore_ok 0 0 0 0 A2 96 k2 (labF X fun _ => 0) _ hrd2'.out (by omega) (by omega)).mono ?_
  obtain ⟨S, hS⟩ : ∃ S, Hid (S = sealS X) := ⟨_, (rfl : _ = _)⟩
  rw [show sums (labF X fun _ => 0) (96 / 4) (0, 0, 0, 0) = S from hS.out.symm]
  rintro e w3 ⟨rfl, hn3⟩
  have hown3 := Lib.hid (own_new hown2'.out hn3)
  have hN3 := Lib.hid (hN2.out.next hn3)
  have hbx3 := Blk.fresh w3 37 #[.int .i64 (at4 S 0), .int .i64 (at4 S 1), .int .i64 (at4 S 2), .int .i64 (at4 S 3)]
  have d0 := hbx3.cell 0
  have d1 := hbx3.cell 1
  have d2 := hbx3.cell 2
  have d3 := hbx3.cell 3
  clear hn3 hbx3
  go_wp2_with fail
  refine (sumBytes_any (at4 S) _ fun j hj => by rw [hS.out]; exact sealX_bd X j).mono ?_
  rintro e w4 ⟨v4, rfl, hown4, hn4⟩
  obtain ⟨g4, k4, rfl, hg4, hcs4⟩ := own_news hown4 (by omega)
  have hown5 := Lib.hid (own_new (hown3.out.alloc _) hn4)
  have hcs5 := Lib.hid hcs4
  have hN5 := Lib.hid ((hN3.out.alloc _).next hn4)
  have hh : Hid (rowN (labF X fun _ => 0) 96 = rowN (labF X (sealX X)) 96) := rowN_same fun k hk => labF_head X _ _ k hk
  have happ := Lib.hid (rowN_app (labF X (sealX X)) (sumB (at4 S)) 96 32 fun q hq => by
    have := labF_seal X (sealX X) (q / 8) (q % 8) (by omega) (by omega)
    rw [show 96 + 8 * (q / 8) + q % 8 = 96 + q by omega] at this
    rw [this, hS.out]; rfl)
  clear hown4 hcs4 hn4 d0 d1 d2 d3
  have hsz := hN5.out.size
  go_wp2_with (at_builtin; refine wpList_append_own _ rfl _ _ 42 rfl w.heap.size 5 i0 _ 1 1 Try.underlying42 hi0 hz0 hz1 hz2 rfl (by decide) (.slice A2 96 k2) 96 (rowN (labF X fun _ => 0) 96) rfl hown5.out ⟨g4, 0, none⟩ 32 k4 (rowN (sumB (at4 S)) 32) rfl (rowN_len _ _) hcs5.out (bytes_one _ _) (by unfold maxLen; omega) (by omega) (by omega) ?_; intro v6 w6 hown6 hgrow hnil)
  have hN6 := Lib.hid (hN5.out.appendO hown5.out (Nat.le_refl _) hgrow)
  rw [hh.out, happ.out] at hown6
  obtain ⟨A6, k6, rfl, _, _, hrd6, _⟩ := own_rdB hown6 (fun i _ => labF_lt X _ i) (by unfold maxLen; omega)
  have hrd7 := Lib.hid hrd6
  clear hrd6 hown6 hgrow hnil
  go_wp2
  go_ret2
  exact ⟨_, _, rfl, hrd7.out, hN6.out⟩
theorem sameBytes_eq (A B : Option Addr) (n c d : Nat) (Y Z : Nat → Nat) (w : World) (hY : RdB w A n Y) (hZ : RdB w B n Z) (he : ∀ i, i < n → Y i = Z i) :
    Calls Try.prog 30 #[.slice A n c, .slice B n d] w fun e w' => e = .returned (.bool true) ∧ New w w' := by
  have hm := hY.1
  unfold maxLen at hm
  have he1 := Lib.hid he
  clear he
  go_enter Try.func30, Try.ntmps30
  go_wp2
  go_loopw [5] (fun k wr => ∃ i : Nat, k = .int .i64 i ∧ i ≤ n ∧ New w wr) (fun k _ => n - (intOf k).toNat)
  case atStart => exact ⟨0, rfl, by omega, New.refl w⟩
  case round =>
    obtain ⟨i, rfl, hi, hnw⟩ := hrel
    by_cases hlt : i < n
    · obtain ⟨b, off, rfl, hb, hcs⟩ := hY.2.2 (by omega)
      obtain ⟨b', off', rfl, hb', hcs'⟩ := hZ.2.2 (by omega)
      have c0 := (hnw.cell hb).trans (hcs i hlt)
      have c1 := (hnw.cell hb').trans (hcs' i hlt)
      have he := he1.out i hlt
      clear hcs hcs'
      go_wp2
      go_quiet (fail)
      go_wp2
      go_roundw
      case rel => exact ⟨i + 1, by go_num, by omega, hnw.drewN _⟩
      case measure => simp [intOf]; omega
    · have hin : i = n := by omega
      subst hin
      go_wp2
      go_ret
      exact ⟨rfl, hnw⟩
end Go.Proofs.Ythkgcbjfgglciaa.label
