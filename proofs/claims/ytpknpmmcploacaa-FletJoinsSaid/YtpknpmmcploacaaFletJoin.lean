/-
  Contracts of Join and of the reference's SumJoin.
-/
import Derived.Test.YtpknpmmcploacaaFletSum
import Derived.Handy
import Derived.Deep.DeepCutAuto
import Derived.Deep.CutBlock
namespace Go.Proofs.Ytpknpmmcploacaa.flet
open Go.ChangeShapes Go.WideShapes Go.ChangeAt Go.RowKit Go.Proofs.Ytpknpmmcploacaa.kit
set_option linter.unusedVariables false
set_option maxHeartbeats 8000000

theorem SumJoin_bad (a b c d a' b' c' d' n : Int) (w : World) (h : n < 0 ∨ 1048576 < n) :
    Calls Try.prog 23 #[four a b c d, four a' b' c' d', .int .i64 n] w fun e w' => e = .returned (.tuple #[four 0 0 0 0, .int .i64 2]) ∧ New w w' := by
  go_enter Try.func23, Try.ntmps23
  go_wp2
  all_goals exact bodyPost_ret (v := .tuple #[four 0 0 0 0, .int .i64 2]) (by simp [results, Try.results23, go_sem]) rfl ⟨rfl, ((New.refl _).alloc _).alloc _ |>.alloc _⟩
theorem SumJoin_ok (a b c d a' b' c' d' : Int) (n : Nat) (w : World) (h : n ≤ 1048576) :
    Calls Try.prog 23 #[four a b c d, four a' b' c' d', .int .i64 n] w fun e w' => e = .returned (.tuple #[four (wrap64 (a + a')) (wrap64 ((joinR a b c d n).1 + b')) (wrap64 ((joinR a b c d n).2.1 + c')) (wrap64 ((joinR a b c d n).2.2 + d')), .int .i64 0]) ∧ New w w' := by
  go_enter Try.func23, Try.ntmps23
  go_wp2
  go_loopw [8] (fun k wr => ∃ (i : Nat) (x y z : Int), k = .int .i64 i ∧ i ≤ n ∧ New w wr ∧ Hid ((x, y, z) = joinR a b c d i) ∧ Blk wr w.heap.size 38 #[.int .i64 a, .int .i64 x, .int .i64 y, .int .i64 z] ∧
    Blk wr (w.heap.size + 1) 38 #[.int .i64 a', .int .i64 b', .int .i64 c', .int .i64 d'] ∧ Blk wr (w.heap.size + 1 + 1) 38 #[.int .i64 0, .int .i64 0, .int .i64 0, .int .i64 0]) (fun k _ => n - (intOf k).toNat)
  case atStart =>
    refine ⟨0, b, c, d, rfl, by omega, (((New.refl _).alloc _).alloc _).alloc _, rfl, ?_, ?_, ?_⟩
    · exact ((Blk.fresh w _ _).alloc _).alloc _
    · have := (Blk.fresh (w.alloc (.cells #[.int .i64 a, .int .i64 b, .int .i64 c, .int .i64 d] 38)) 38 #[.int .i64 a', .int .i64 b', .int .i64 c', .int .i64 d']).alloc (.cells #[.int .i64 0, .int .i64 0, .int .i64 0, .int .i64 0] 38)
      simpa using this
    · have := Blk.fresh ((w.alloc (.cells #[.int .i64 a, .int .i64 b, .int .i64 c, .int .i64 d] 38)).alloc (.cells #[.int .i64 a', .int .i64 b', .int .i64 c', .int .i64 d'] 38)) 38 #[.int .i64 0, .int .i64 0, .int .i64 0, .int .i64 0]
      simpa using this
  case round =>
    obtain ⟨i, x, y, z, rfl, hi, hnw, hS, hG, hT, hR⟩ := hrel
    have c0 := hG.cell 0
    have c1 := hG.cell 1
    have c2 := hG.cell 2
    have c3 := hG.cell 3
    have e1 := hG.frozen 1
    have e2 := hG.frozen 2
    have e3 := hG.frozen 3
    simp at c0 c1 c2 c3
    by_cases hlt : i < n
    · go_wp2
      go_roundw
      case rel =>
        have hlt' : w.heap.size ≤ w.heap.size := Nat.le_refl _
        refine ⟨i + 1, wrap64 (x + a), wrap64 (y + wrap64 (x + a)), wrap64 (z + wrap64 (y + wrap64 (x + a))), by go_num, by omega, ((hnw.set (p := ⟨w.heap.size, 1, none⟩) hlt' _).set (p := ⟨w.heap.size, 2, none⟩) hlt' _).set (p := ⟨w.heap.size, 3, none⟩) hlt' _, ?_, ?_, ?_, ?_⟩
        · show _ = joinR a b c d (i + 1)
          unfold joinR
          rw [← hS.out]
        · have := ((hG.put 1 (.int .i64 (wrap64 (x + a)))).put 2 (.int .i64 (wrap64 (y + wrap64 (x + a))))).put 3 (.int .i64 (wrap64 (z + wrap64 (y + wrap64 (x + a)))))
          simpa using this
        · exact ((hT.far (by simp) _).far (by simp) _).far (by simp) _
        · exact ((hR.far (by simp; omega) _).far (by simp; omega) _).far (by simp; omega) _
      case measure => simp [intOf]; omega
    · have hin : i = n := by omega
      subst hin
      have d0 := hT.cell 0
      have d1 := hT.cell 1
      have d2 := hT.cell 2
      have d3 := hT.cell 3
      have f0 := hR.frozen 0
      have f1 := hR.frozen 1
      have f2 := hR.frozen 2
      have f3 := hR.frozen 3
      have g0 := hR.cell 0
      have g1 := hR.cell 1
      have g2 := hR.cell 2
      have g3 := hR.cell 3
      simp at d0 d1 d2 d3 g0 g1 g2 g3
      have hR3 := (((hR.put 0 (.int .i64 (wrap64 (a + a')))).put 1 (.int .i64 (wrap64 (x + b')))).put 2 (.int .i64 (wrap64 (y + c')))).put 3 (.int .i64 (wrap64 (z + d')))
      have q0 := hR3.cell 0
      have q1 := hR3.cell 1
      have q2 := hR3.cell 2
      have q3 := hR3.cell 3
      simp at q0 q1 q2 q3
      have hq := Lib.hid (And.intro q0 (And.intro q1 (And.intro q2 q3)))
      clear q0 q1 q2 q3
      go_wp2
      obtain ⟨q0, q1, q2, q3⟩ := hq.out
      have hlt' : w.heap.size ≤ w.heap.size + 1 + 1 := by omega
      exact bodyPost_ret (v := .tuple #[four (wrap64 (a + a')) (wrap64 (x + b')) (wrap64 (y + c')) (wrap64 (z + d')), .int .i64 0]) (by simp [results, Try.results23, go_sem, q0, q1, q2, q3]) rfl ⟨by rw [← hS.out],
        (((hnw.set (p := ⟨w.heap.size + 1 + 1, 0, none⟩) hlt' _).set (p := ⟨w.heap.size + 1 + 1, 1, none⟩) hlt' _).set (p := ⟨w.heap.size + 1 + 1, 2, none⟩) hlt' _).set (p := ⟨w.heap.size + 1 + 1, 3, none⟩) hlt' _⟩

theorem Join_bad (a b c d a' b' c' d' n : Int) (w : World) (h : n < 0 ∨ 1048576 < n) :
    Calls Try.prog 22 #[four a b c d, four a' b' c' d', .int .i64 n] w fun e w' => e = .returned (.tuple #[four 0 0 0 0, .int .i64 2]) ∧ New w w' := by
  go_enter Try.func22, Try.ntmps22
  go_wp2
  all_goals exact bodyPost_ret (v := .tuple #[four 0 0 0 0, .int .i64 2]) (by simp [results, Try.results22, go_sem]) rfl ⟨rfl, ((New.refl _).alloc _).alloc _ |>.alloc _⟩
theorem of_exact (a b c d : Int) (w : World) :
    Calls Try.prog 44 #[four a b c d] w fun e w' => e = .returned (four a b c d) ∧ w' = (w.alloc (.cells #[.int .i64 a, .int .i64 b, .int .i64 c, .int .i64 d] 38)).alloc (.cells #[.int .i64 a, .int .i64 b, .int .i64 c, .int .i64 d] 69) := by
  go_enter Try.func44, Try.ntmps44
  go_wp2
  exact bodyPost_ret (v := four a b c d) (by simp [results, Try.results44, go_sem]) rfl ⟨rfl, rfl⟩
theorem Blk.top (w : World) (g : Nat) (t : TypeId) (cs : Array Value) (h : g = w.heap.size) : Blk (w.alloc (.cells cs t)) g t cs := h ▸ Blk.fresh w t cs
/-- four numbers in a row -/
def rowV (f : Nat → Int) : Array Value := #[.int .i64 (f 0), .int .i64 (f 1), .int .i64 (f 2), .int .i64 (f 3)]
theorem lt4 {k : Nat} (h : k < 4) : k = 0 ∨ k = 1 ∨ k = 2 ∨ k = 3 := by omega
theorem rowV_at (f : Nat → Int) {k : Nat} (h : k < 4) : (rowV f)[k]? = some (.int .i64 (f k)) := by
  rcases lt4 h with rfl | rfl | rfl | rfl <;> rfl
theorem rowV_set (f : Nat → Int) {k : Nat} (h : k < 4) (v : Int) : (rowV f).setIfInBounds k (.int .i64 v) = rowV (fun j => if j = k then v else f j) := by
  rcases lt4 h with rfl | rfl | rfl | rfl <;> simp [rowV]
/-- one sum while it is reckoned -/
def partJ (far a t : Nat → Int) (i : Nat) : Nat → Int
  | 0 => t i
  | k + 1 => wrap64 (partJ far a t i k + wrap64 (far (i - k) * a k))
def rowJ (far a t : Nat → Int) (i : Nat) (s : Int) : Nat → Int := fun j => if j < i then partJ far a t j (j + 1) else if j = i then s else t j
theorem rowJ_at (far a t : Nat → Int) (i : Nat) (s : Int) : rowJ far a t i s i = s := by simp [rowJ]
theorem rowJ_set (far a t : Nat → Int) (i : Nat) (s s' : Int) : (fun j => if j = i then s' else rowJ far a t i s j) = rowJ far a t i s' := by
  funext j
  unfold rowJ
  by_cases h : j = i
  · simp [h]
  · simp [h]
theorem rowJ_next (far a t : Nat → Int) (i : Nat) : rowJ far a t i (partJ far a t i (i + 1)) = rowJ far a t (i + 1) (t (i + 1)) := by
  funext j
  unfold rowJ
  by_cases h1 : j < i
  · simp [h1, Nat.lt_succ_of_lt h1]
  · by_cases h2 : j = i
    · subst h2; simp
    · have h3 : ¬ j < i + 1 := by omega
      simp [h1, h2, h3]
      intro h4; rw [h4]
theorem join_fin (a b c d a' b' c' d' : Int) (n : Nat) (P2 P3 : Int) (h2 : P2 = p2 n) (h3 : P3 = p3 n) (far av tv : Nat → Int)
    (hfar : far = fun j => if j = 0 then 1 else if j = 1 then (n : Int) else if j = 2 then P2 else P3)
    (hav : av = fun j => if j = 0 then a else if j = 1 then b else if j = 2 then c else d)
    (htv : tv = fun j => if j = 0 then a' else if j = 1 then b' else if j = 2 then c' else d') :
    (partJ far av tv 0 1, partJ far av tv 1 2, partJ far av tv 2 3, partJ far av tv 3 4) = (wrap64 (a + a'), wrap64 ((joinR a b c d n).1 + b'), wrap64 ((joinR a b c d n).2.1 + c'), wrap64 ((joinR a b c d n).2.2 + d')) := by
  obtain ⟨j1, j2, j3⟩ := joinR_like a b c d n
  have w (x y : Int) : E64 (wrap64 (x * y)) (x * y) := E64.wrap _
  have r0 : partJ far av tv 0 1 = wrap64 (a' + wrap64 (1 * a)) := by rw [hfar, hav, htv]; rfl
  have r1 : partJ far av tv 1 2 = wrap64 (wrap64 (b' + wrap64 ((n : Int) * a)) + wrap64 (1 * b)) := by rw [hfar, hav, htv]; rfl
  have r2 : partJ far av tv 2 3 = wrap64 (wrap64 (wrap64 (c' + wrap64 (P2 * a)) + wrap64 ((n : Int) * b)) + wrap64 (1 * c)) := by rw [hfar, hav, htv]; rfl
  have r3 : partJ far av tv 3 4 = wrap64 (wrap64 (wrap64 (wrap64 (d' + wrap64 (P3 * a)) + wrap64 (P2 * b)) + wrap64 ((n : Int) * c)) + wrap64 (1 * d)) := by rw [hfar, hav, htv]; rfl
  have k0 : E64 (a' + wrap64 (1 * a)) (a + a') := by
    refine ((E64.rfl' a').add (w 1 a)).trans ?_
    rw [Int.one_mul, Int.add_comm]; exact E64.rfl' _
  have k1 : E64 (wrap64 (b' + wrap64 ((n : Int) * a)) + wrap64 (1 * b)) ((joinR a b c d n).1 + b') := by
    refine (((E64.rfl' b').wadd (w n a)).add (w 1 b)).trans ?_
    refine E64.trans ?_ ((j1.add (E64.rfl' b')).symm)
    rw [show b' + (n : Int) * a + 1 * b = b + (n : Int) * a + b' by omega]; exact E64.rfl' _
  have k2 : E64 (wrap64 (wrap64 (c' + wrap64 (P2 * a)) + wrap64 ((n : Int) * b)) + wrap64 (1 * c)) ((joinR a b c d n).2.1 + c') := by
    refine ((((E64.rfl' c').wadd (w P2 a)).wadd (w n b)).add (w 1 c)).trans ?_
    refine E64.trans ?_ ((j2.add (E64.rfl' c')).symm)
    rw [← h2, show c' + P2 * a + (n : Int) * b + 1 * c = c + (n : Int) * b + P2 * a + c' by omega]; exact E64.rfl' _
  have k3 : E64 (wrap64 (wrap64 (wrap64 (d' + wrap64 (P3 * a)) + wrap64 (P2 * b)) + wrap64 ((n : Int) * c)) + wrap64 (1 * d)) ((joinR a b c d n).2.2 + d') := by
    refine (((((E64.rfl' d').wadd (w P3 a)).wadd (w P2 b)).wadd (w n c)).add (w 1 d)).trans ?_
    refine E64.trans ?_ ((j3.add (E64.rfl' d')).symm)
    rw [← h2, ← h3, show d' + P3 * a + P2 * b + (n : Int) * c + 1 * d = d + (n : Int) * c + P2 * b + P3 * a + d' by omega]; exact E64.rfl' _
  rw [r0, r1, r2, r3, k0.wrap_eq, k1.wrap_eq, k2.wrap_eq, k3.wrap_eq]
theorem Join_ok (a b c d a' b' c' d' : Int) (n : Nat) (w : World) (h : n ≤ 1048576) :
    Calls Try.prog 22 #[four a b c d, four a' b' c' d', .int .i64 n] w fun e w' => e = .returned (.tuple #[four (wrap64 (a + a')) (wrap64 ((joinR a b c d n).1 + b')) (wrap64 ((joinR a b c d n).2.1 + c')) (wrap64 ((joinR a b c d n).2.2 + d')), .int .i64 0]) ∧ New w w' := by
  go_enter Try.func22, Try.ntmps22
  go_upto_region 3 with fail
  obtain ⟨W1, hW1⟩ : ∃ W1, W1 = ((w.alloc (.cells #[.int .i64 a, .int .i64 b, .int .i64 c, .int .i64 d] 38)).alloc (.cells #[.int .i64 a', .int .i64 b', .int .i64 c', .int .i64 d'] 38)).alloc (.cells #[.int .i64 0, .int .i64 0, .int .i64 0, .int .i64 0] 38) := ⟨_, rfl⟩
  obtain ⟨A, hA⟩ : ∃ A, A = w.heap.size := ⟨_, rfl⟩
  obtain ⟨B, hB⟩ : ∃ B, B = w.heap.size + 1 := ⟨_, rfl⟩
  rw [← hW1, ← hB, ← hA]
  go_cut [8, 9] from 10 to 64 (fun p q wx => ∃ g8 g9, p = .pointer (some ⟨g8, 0, none⟩) ∧ q = .pointer (some ⟨g9, 0, none⟩) ∧ g8 ≠ g9 ∧ w.heap.size + 3 ≤ g8 ∧ w.heap.size + 3 ≤ g9 ∧
    Blk wx g8 69 #[.int .i64 a, .int .i64 b, .int .i64 c, .int .i64 d] ∧ Blk wx g9 69 #[.int .i64 a', .int .i64 b', .int .i64 c', .int .i64 d'] ∧ New W1 wx)
  case first =>
    have hbA : Blk W1 A 38 #[.int .i64 a, .int .i64 b, .int .i64 c, .int .i64 d] := by rw [hW1, hA]; exact ((Blk.fresh _ _ _).alloc _).alloc _
    have hbB : Blk W1 B 38 #[.int .i64 a', .int .i64 b', .int .i64 c', .int .i64 d'] := by rw [hW1, hB]; exact (Blk.top _ _ _ _ (by simp)).alloc _
    have hsz : W1.heap.size = w.heap.size + 3 := by rw [hW1]; simp
    have a0 := hbA.cell 0
    have a1 := hbA.cell 1
    have a2 := hbA.cell 2
    have a3 := hbA.cell 3
    have b0 := hbB.cell 0
    have b1 := hbB.cell 1
    have b2 := hbB.cell 2
    have b3 := hbB.cell 3
    simp at a0 a1 a2 a3 b0 b1 b2 b3
    have e0 : W1.heap.size ≠ A := by omega
    have e1 : W1.heap.size + 1 ≠ A := by omega
    have e2 : W1.heap.size + 2 ≠ A := by omega
    have e3 : W1.heap.size + 3 ≠ A := by omega
    have e4 : W1.heap.size + 4 ≠ A := by omega
    have e5 : W1.heap.size + 5 ≠ A := by omega
    have f0 : W1.heap.size ≠ B := by omega
    have f1 : W1.heap.size + 1 ≠ B := by omega
    have f2 : W1.heap.size + 2 ≠ B := by omega
    have f3 : W1.heap.size + 3 ≠ B := by omega
    have f4 : W1.heap.size + 4 ≠ B := by omega
    have f5 : W1.heap.size + 5 ≠ B := by omega
    clear hW1 hA hB
    go_region_held3 (fun w' => w'.cell? ⟨A, 0, none⟩ = some (.int .i64 a) ∧ w'.cell? ⟨A, 1, none⟩ = some (.int .i64 b) ∧ w'.cell? ⟨A, 2, none⟩ = some (.int .i64 c) ∧ w'.cell? ⟨A, 3, none⟩ = some (.int .i64 d)
        ∧ w'.cell? ⟨B, 0, none⟩ = some (.int .i64 a') ∧ w'.cell? ⟨B, 1, none⟩ = some (.int .i64 b') ∧ w'.cell? ⟨B, 2, none⟩ = some (.int .i64 c') ∧ w'.cell? ⟨B, 3, none⟩ = some (.int .i64 d')) (simp (maxDischargeDepth := 20) [*, World.cell?_alloc_some])
      (first | (go_at_call 44; refine (of_exact _ _ _ _ _).mono ?_; rintro e w' ⟨rfl, rfl⟩))
    all_goals go_wp2_with fail
    all_goals go_meet
    all_goals refine ⟨_, _, rfl, rfl, by omega, by omega, by omega, ?_, ?_, ?_⟩
    all_goals first
      | (refine Blk.drew ?_
         repeat' (first | (refine Blk.top _ _ _ _ ?_; (first | (simp [hsz]; done) | (simp [hsz]; omega))) | refine Blk.alloc ?_ _)
         done)
      | (refine New.drew ?_
         repeat' (first | exact New.refl _ | refine New.alloc ?_ _)
         done)
  case rest =>
    obtain ⟨g8, g9, rfl, rfl, hne, h8, h9, k8, k9, hn⟩ := hcut
    have hNW : New w W1 := by rw [hW1]; exact (((New.refl _).alloc _).alloc _).alloc _
    have hR0 : Blk W1 (w.heap.size + 1 + 1) 38 #[.int .i64 0, .int .i64 0, .int .i64 0, .int .i64 0] := by rw [hW1]; exact Blk.top _ _ _ _ (by simp)
    have hR := hR0.new hn
    have hN := hNW.next hn
    clear hR0 hNW hn hW1
    subst hA hB
    clear W1
    obtain ⟨P2, hP2⟩ : ∃ P, Hid (P = p2 n) := ⟨_, (rfl : _ = _)⟩
    obtain ⟨P3, hP3⟩ : ∃ P, Hid (P = p3 n) := ⟨_, (rfl : _ = _)⟩
    have e2 : (n : Int) * ((n : Int) + 1) = 2 * P2 := by rw [hP2.out]; exact (p2_two n).symm
    have e3 : P2 * ((n : Int) + 2) = 3 * P3 := by rw [hP2.out, hP3.out]; exact (p3_three n).symm
    have l2 : 0 ≤ P2 ∧ P2 ≤ 549756338176 := by rw [hP2.out]; exact ⟨p2_nonneg n, p2_le n h⟩
    have l3 : 0 ≤ P3 ∧ P3 ≤ 576464050838306816 := by
      have h1 := p3_le n h
      have h2 := p3_three n
      have h3 := p3_nonneg n
      rw [hP3.out]; omega
    obtain ⟨far, hfar⟩ : ∃ far : Nat → Int, Hid (far = fun j => if j = 0 then 1 else if j = 1 then (n : Int) else if j = 2 then P2 else P3) := ⟨_, (rfl : _ = _)⟩
    obtain ⟨av, hav⟩ : ∃ av : Nat → Int, Hid (av = fun j => if j = 0 then a else if j = 1 then b else if j = 2 then c else d) := ⟨_, (rfl : _ = _)⟩
    obtain ⟨tv, htv⟩ : ∃ tv : Nat → Int, Hid (tv = fun j => if j = 0 then a' else if j = 1 then b' else if j = 2 then c' else d') := ⟨_, (rfl : _ = _)⟩
    have hf0 : Hid (rowV far = #[.int .i64 1, .int .i64 n, .int .i64 P2, .int .i64 P3]) := by rw [hfar.out]; rfl
    have k8' : Blk wc g8 69 (rowV av) := by rw [hav.out]; exact k8
    have k9' : Blk wc g9 69 (rowV (rowJ far av tv 0 (tv 0))) := by
      have : rowJ far av tv 0 (tv 0) = tv := by funext j; unfold rowJ; by_cases hj : j = 0 <;> simp [hj]
      rw [this, htv.out]; exact k9
    clear k8 k9
    have h8' := k8'.lt
    have h9' := k9'.lt
    have hR' := hR.lt
    go_wp2
    go_loopw [40] (fun cc wr => ∃ i : Nat, cc = .int .i64 i ∧ i ≤ 4 ∧ New w wr ∧ Blk wr g8 69 (rowV av) ∧ Blk wr g9 69 (rowV (rowJ far av tv i (tv i))) ∧ Blk wr wc.heap.size 68 (rowV far) ∧
      Blk wr (w.heap.size + 1 + 1) 38 #[.int .i64 0, .int .i64 0, .int .i64 0, .int .i64 0]) (fun cc _ => 4 - (intOf cc).toNat)
    case atStart =>
      refine ⟨0, rfl, by omega, hN.alloc _, k8'.alloc _, k9'.alloc _, ?_, hR.alloc _⟩
      rw [hf0.out]
      exact Blk.fresh _ _ _
    case round =>
      obtain ⟨i, rfl, hi, hnw, q8, q9, qf, qR⟩ := hrel
      by_cases hlt : i < 4
      · obtain ⟨W0, hW0⟩ : ∃ W0, W0 = wr := ⟨_, rfl⟩
        subst hW0
        go_wp2
        go_loopw [12] (fun cc wr => ∃ k : Nat, cc = .int .i64 k ∧ k ≤ i + 1 ∧ New w wr ∧ Blk wr g8 69 (rowV av) ∧ Blk wr g9 69 (rowV (rowJ far av tv i (partJ far av tv i k))) ∧ Blk wr wc.heap.size 68 (rowV far) ∧
          Blk wr (w.heap.size + 1 + 1) 38 #[.int .i64 0, .int .i64 0, .int .i64 0, .int .i64 0]) (fun cc _ => 5 - (intOf cc).toNat)
        case atStart => exact ⟨0, rfl, by omega, hnw, q8, q9, qf, qR⟩
        case round =>
          obtain ⟨k, rfl, hk, hnw, q8, q9, qf, qR⟩ := hrel
          by_cases hlt2 : k ≤ i
          · obtain ⟨e, rfl⟩ : ∃ e, i = k + e := ⟨i - k, by omega⟩
            obtain ⟨x, hx⟩ : ∃ x, Hid (x = partJ far av tv (k + e) k) := ⟨_, (rfl : _ = _)⟩
            obtain ⟨y, hy⟩ : ∃ y, Hid (y = far e) := ⟨_, (rfl : _ = _)⟩
            obtain ⟨z, hz⟩ : ∃ z, Hid (z = av k) := ⟨_, (rfl : _ = _)⟩
            have c9 : wr.cell? ⟨g9, k + e, none⟩ = some (.int .i64 x) := by
              rw [q9.cell (k + e), rowV_at _ hlt, rowJ_at, ← hx.out]
            have c8 : wr.cell? ⟨g8, k, none⟩ = some (.int .i64 z) := by
              rw [q8.cell k, rowV_at _ (by omega), ← hz.out]
            have cf : wr.cell? ⟨wc.heap.size, e, none⟩ = some (.int .i64 y) := by
              rw [qf.cell e, rowV_at _ (by omega), ← hy.out]
            have m9 := NewW.keep c9
            have m8 := NewW.keep c8
            have mf := NewW.keep cf
            have z0 : (0 : Int) ≤ (k : Int) := by omega
            have z1 : (0 : Int) ≤ (e : Int) := by omega
            have z2 : (k : Int) < 4 := by omega
            have z3 : (e : Int) < 4 := by omega
            have z4 : (0 : Int) ≤ (k : Int) + (e : Int) := by omega
            have z5 : (k : Int) + (e : Int) < 4 := by omega
            have z6 : IntKind.i64.wrap ((k : Int) + (e : Int) - (k : Int)) = (e : Int) := by
              rw [show (k : Int) + (e : Int) - (k : Int) = (e : Int) by omega]; exact IntWalk.i64_in _ (by omega)
            have z7 : ((k : Int) + (e : Int)).toNat = k + e := by omega
            have z8 : ((k + e : Nat) : Int) = (k : Int) + (e : Int) := by push_cast; rfl
            go_wp2
            (refine wp_region_new_tail 14 (by kernel_rfl) (by kernel_rfl) ?_; simp only [List.take_succ_cons, List.take_zero, List.drop_succ_cons, List.drop_zero]; (repeat (first | go_big_quiet_step (fail) | quiet_step (fail))); refine wpQuiet_nil ?_; rintro W2 ⟨⟨_, hn_W2⟩, rfl⟩)
            have c9' := (q9.new hn_W2).cell (k + e)
            rw [rowV_at _ hlt, rowJ_at, ← hx.out] at c9'
            have fz := (q9.new hn_W2).frozen (k + e)
            have hq := (q9.new hn_W2).put (k + e) (.int .i64 (wrap64 (x + wrap64 (y * z))))
            rw [rowV_set _ hlt, rowJ_set] at hq
            have hpart : wrap64 (x + wrap64 (y * z)) = partJ far av tv (k + e) (k + 1) := by
              show _ = wrap64 (partJ far av tv (k + e) k + wrap64 (far (k + e - k) * av k))
              rw [show k + e - k = e by omega, ← hx.out, ← hy.out, ← hz.out]
            have hpart1 := Lib.hid hpart
            have hq1 := Lib.hid hq
            clear hpart hq
            clear m9 m8 mf z6 z7 z8 c9 c8 cf
            go_wp2
            go_roundw
            case rel =>
              have hq := hq1.out
              have hw : w.heap.size ≤ g9 := by omega
              refine ⟨k + 1, by go_num, by omega, (hnw.next hn_W2).set (p := ⟨g9, k + e, none⟩) hw _, (q8.new hn_W2).far hne _, ?_, (qf.new hn_W2).far (by simp; omega) _, (qR.new hn_W2).far (by simp; omega) _⟩
              rw [← hpart1.out]
              exact hq
            case measure => simp [intOf]; omega
          · have hin : k = i + 1 := by omega
            subst hin
            rw [rowJ_next] at q9
            go_wp2
            go_roundw
            case rel => exact ⟨i + 1, by go_num, by omega, hnw, q8, q9, qf, qR⟩
            case measure => simp [intOf]; omega
      · have hin : i = 4 := by omega
        subst hin
        have hv : ∀ j, j < 4 → rowJ far av tv 4 (tv 4) j = partJ far av tv j (j + 1) := fun j hj => by unfold rowJ; rw [if_pos hj]
        have d0 := q9.cell 0
        have d1 := q9.cell 1
        have d2 := q9.cell 2
        have d3 := q9.cell 3
        rw [rowV_at _ (by omega), hv _ (by omega)] at d0 d1 d2 d3
        clear hv
        obtain ⟨r0, hr0⟩ : ∃ r, Hid (r = partJ far av tv 0 1) := ⟨_, (rfl : _ = _)⟩
        obtain ⟨r1, hr1⟩ : ∃ r, Hid (r = partJ far av tv 1 2) := ⟨_, (rfl : _ = _)⟩
        obtain ⟨r2, hr2⟩ : ∃ r, Hid (r = partJ far av tv 2 3) := ⟨_, (rfl : _ = _)⟩
        obtain ⟨r3, hr3⟩ : ∃ r, Hid (r = partJ far av tv 3 4) := ⟨_, (rfl : _ = _)⟩
        simp only [Nat.reduceAdd] at d0 d1 d2 d3
        rw [← hr0.out] at d0
        rw [← hr1.out] at d1
        rw [← hr2.out] at d2
        rw [← hr3.out] at d3
        have f0 := qR.frozen 0
        have f1 := qR.frozen 1
        have f2 := qR.frozen 2
        have f3 := qR.frozen 3
        have g0 := qR.cell 0
        have g1 := qR.cell 1
        have g2 := qR.cell 2
        have g3 := qR.cell 3
        simp at g0 g1 g2 g3
        have q0 := (((qR.put 0 (.int .i64 r0)).put 1 (.int .i64 r1)).put 2 (.int .i64 r2)).put 3 (.int .i64 r3)
        go_wp2_with fail
        refine (sum_any _ _ _ _ _).mono ?_
        rintro e w1 ⟨rfl, hn1⟩
        have g0' := (qR.new hn1).cell 0
        have g1' := (qR.new hn1).cell 1
        have g2' := (qR.new hn1).cell 2
        have g3' := (qR.new hn1).cell 3
        have f0' := (qR.new hn1).frozen 0
        have f1' := (qR.new hn1).frozen 1
        have f2' := (qR.new hn1).frozen 2
        have f3' := (qR.new hn1).frozen 3
        simp at g0' g1' g2' g3'
        have hR3 := ((((qR.new hn1).put 0 (.int .i64 r0)).put 1 (.int .i64 r1)).put 2 (.int .i64 r2)).put 3 (.int .i64 r3)
        have p0 := hR3.cell 0
        have p1 := hR3.cell 1
        have p2 := hR3.cell 2
        have p3 := hR3.cell 3
        simp at p0 p1 p2 p3
        have hq := Lib.hid (And.intro p0 (And.intro p1 (And.intro p2 p3)))
        clear p0 p1 p2 p3 hR3
        go_wp2
        obtain ⟨p0, p1, p2, p3⟩ := hq.out
        have hlt' : w.heap.size ≤ w.heap.size + 1 + 1 := by omega
        have hN4 := (((((hnw.next hn1).set (p := ⟨w.heap.size + 1 + 1, 0, none⟩) hlt' (.int .i64 r0)).set (p := ⟨w.heap.size + 1 + 1, 1, none⟩) hlt' (.int .i64 r1)).set (p := ⟨w.heap.size + 1 + 1, 2, none⟩) hlt' (.int .i64 r2)).set (p := ⟨w.heap.size + 1 + 1, 3, none⟩) hlt' (.int .i64 r3))
        have hfin : (r0, r1, r2, r3) = (wrap64 (a + a'), wrap64 ((joinR a b c d n).1 + b'), wrap64 ((joinR a b c d n).2.1 + c'), wrap64 ((joinR a b c d n).2.2 + d')) := by
          rw [hr0.out, hr1.out, hr2.out, hr3.out]
          exact join_fin a b c d a' b' c' d' n P2 P3 hP2.out hP3.out far av tv hfar.out hav.out htv.out
        injection hfin with i0 i1
        injection i1 with i1 i2
        injection i2 with i2 i3
        rw [← i0, ← i1, ← i2, ← i3]
        exact bodyPost_ret (v := .tuple #[four r0 r1 r2 r3, .int .i64 0]) (by simp [results, Try.results22, go_sem, p0, p1, p2, p3]) rfl ⟨rfl, hN4⟩
end Go.Proofs.Ytpknpmmcploacaa.flet
