/-
  Contracts of the reference's words, SumMore, SumJoin.
-/
import Derived.Test.YtjmjnodaohbpfaaFlet
import Derived.OwnWalk
namespace Go.Proofs.Ytjmjnodaohbpfaa.flet
open Go.ChangeShapes Go.WideShapes Go.ChangeAt Go.RowKit Go.Proofs.Ytjmjnodaohbpfaa.kit

theorem infoInt : (Try.prog.info? 3).map (fun i => (i.zero, i.size, i.bytes)) = some (some (.int .i64 0), 1, 8) := by kernel_rfl
def wordZ (B : Nat → Nat) (j : Nat) : Int := wordN (B (4 * j)) (B (4 * j + 1)) (B (4 * j + 2)) (B (4 * j + 3))
def wordsL (B : Nat → Nat) (k : Nat) : List Value := (List.range k).map fun j => .int .i64 (wordZ B j)
theorem wordsL_succ (B : Nat → Nat) (k : Nat) : wordsL B (k + 1) = wordsL B k ++ [.int .i64 (wordZ B k)] := by unfold wordsL; rw [List.range_succ]; simp
theorem wordsL_len (B : Nat → Nat) (k : Nat) : (wordsL B k).length = k := by simp [wordsL]
theorem word_wrap (y0 y1 y2 y3 : Nat) (x0 : y0 < 256) (x1 : y1 < 256) (x2 : y2 < 256) (x3 : y3 < 256) :
    IntKind.i64.wrap (IntKind.i64.wrap (IntKind.i64.wrap (IntKind.i64.wrap (y0 : Int) + IntKind.i64.wrap (256 * IntKind.i64.wrap (y1 : Int))) + IntKind.i64.wrap (65536 * IntKind.i64.wrap (y2 : Int))) + IntKind.i64.wrap (16777216 * IntKind.i64.wrap (y3 : Int))) = ((wordN y0 y1 y2 y3 : Nat) : Int) := by
  rw [IntWalk.i64_in (y0 : Int) (by omega), IntWalk.i64_in (y1 : Int) (by omega), IntWalk.i64_in (y2 : Int) (by omega), IntWalk.i64_in (y3 : Int) (by omega)]
  rw [IntWalk.i64_in (256 * (y1 : Int)) (by omega), IntWalk.i64_in (65536 * (y2 : Int)) (by omega), IntWalk.i64_in (16777216 * (y3 : Int)) (by omega)]
  rw [IntWalk.i64_in ((y0 : Int) + 256 * (y1 : Int)) (by omega), IntWalk.i64_in ((y0 : Int) + 256 * (y1 : Int) + 65536 * (y2 : Int)) (by omega), IntWalk.i64_in ((y0 : Int) + 256 * (y1 : Int) + 65536 * (y2 : Int) + 16777216 * (y3 : Int)) (by omega)]
  unfold wordN
  omega
theorem words_ok (A : Option Addr) (n cap : Nat) (B : Nat → Nat) (w : World) (h : RdB w A n B) (h4 : n % 4 = 0) (hbig : n ≤ 1048576) :
    Calls Try.prog 59 #[.slice A n cap] w fun e w' => ∃ v, e = .returned (.tuple #[v, .bool true]) ∧ w'.ownsRow w.heap.size 3 1 v (n / 4) (wordsL B (n / 4)) ∧ New w w' := by
  obtain ⟨i0, hi0, hz0, hz1, hz2⟩ := info_parts infoInt
  have h4i : ((n : Int) % 4 == 0) = true := by simp; omega
  have h4j : ((n : Int) % 4 != 0) = false := by simp; omega
  go_enter Try.func59, Try.ntmps59
  go_wp2
  go_loopw [4, 5] (fun v i wr => ∃ (k q : Nat) (sv : Value), sv = v ∧ i = .int .i64 q ∧ Hid (q = 4 * k) ∧ q ≤ n ∧ wr.ownsRow w.heap.size 3 1 sv k (wordsL B k) ∧ New w wr) (fun _ i _ => n - (intOf i).toNat)
  case atStart => exact ⟨0, 0, _, rfl, rfl, rfl, by omega, World.ownsRow_nil _ _ _ _, New.refl w⟩
  case round =>
    obtain ⟨k, q, sv, rfl, rfl, hq, hk, hown, hnw⟩ := hrel
    by_cases hlt : q < n
    · have hq4 : q + 3 < n := by have := hq.out; omega
      obtain ⟨b, off, rfl, hb, hcs⟩ := h.2.2 (by omega)
      have b0 := (hnw.cell hb).trans (hcs q (by omega))
      have b1 := (hnw.cell hb).trans (hcs (q + 1) (by omega))
      have b2 := (hnw.cell hb).trans (hcs (q + 2) (by omega))
      have b3 := (hnw.cell hb).trans (hcs (q + 3) (by omega))
      have x0 := h.2.1 q (by omega)
      have x1 := h.2.1 (q + 1) (by omega)
      have x2 := h.2.1 (q + 2) (by omega)
      have x3 := h.2.1 (q + 3) (by omega)
      have hrow : sv.ownBlock ≠ some b := fun he => by have := (hown.lt _ he).1; omega
      have hnext : Hid (wordsL B (k + 1) = wordsL B k ++ [.int .i64 (wordN (B q) (B (q + 1)) (B (q + 2)) (B (q + 3)) : Nat)]) := by rw [hq.out]; exact wordsL_succ B k
      have hbr : b < wr.heap.size := Nat.lt_of_lt_of_le hb hnw.size
      have i0' : (0 : Int) ≤ (q : Int) := by omega
      have i1' : (q : Int) < (n : Int) := by omega
      have i2' : (q : Int) + 1 < (n : Int) := by omega
      have i3' : (q : Int) + 2 < (n : Int) := by omega
      have i4' : (q : Int) + 3 < (n : Int) := by omega
      have hkn : k ≤ 1048576 := by have := hq.out; omega
      have e1 : IntKind.i64.wrap ((q : Int) + 1) = (q : Int) + 1 := IntWalk.i64_in _ (by omega)
      have e2 : IntKind.i64.wrap ((q : Int) + 2) = (q : Int) + 2 := IntWalk.i64_in _ (by omega)
      have e3 : IntKind.i64.wrap ((q : Int) + 3) = (q : Int) + 3 := IntWalk.i64_in _ (by omega)
      have j1 : (0 : Int) ≤ (q : Int) + 1 := by omega
      have j2 : (0 : Int) ≤ (q : Int) + 2 := by omega
      have j3 : (0 : Int) ≤ (q : Int) + 3 := by omega
      have t1 : ((q : Int) + 1).toNat = q + 1 := by omega
      have t2 : ((q : Int) + 2).toNat = q + 2 := by omega
      have t3 : ((q : Int) + 3).toNat = q + 3 := by omega
      clear hcs
      generalize B q = y0 at *
      generalize B (q + 1) = y1 at *
      generalize B (q + 2) = y2 at *
      generalize B (q + 3) = y3 at *
      go_wp2
      go_region_held3 (fun w' => w'.cell? ⟨b, off + q, none⟩ = some (.int .u8 y0) ∧ w'.cell? ⟨b, off + (q + 1), none⟩ = some (.int .u8 y1) ∧ w'.cell? ⟨b, off + (q + 2), none⟩ = some (.int .u8 y2) ∧ w'.cell? ⟨b, off + (q + 3), none⟩ = some (.int .u8 y3))
        (first
          | go_keep
          | (go_split_ands
             refine ⟨?_, ?_, ?_, ?_⟩ <;> (rw [hgrow.cell_far _ (by simp; omega) (Ne.symm hrow)]; assumption)))
        ((refine step_append_lies _ (by rfl) _ _ _ (by rfl) w.heap.size 3 i0 _ 1 8 Try.underlying29 hi0 hz0 hz1 hz2 rfl (by omega) sv k (wordsL B k) (by rfl) ((hown.alloc _).drew)
            ⟨wr.heap.size, 0, none⟩ 1 1 [.int .i64 _] (by rfl) (by rfl) (World.news_of_block (cs := #[.int .i64 _]) (t := 3) (fr := (0, 0)) (heap_alloc_new wr _)) (by simp [Value.oneCell'])
            (by omega) (by unfold maxLen; omega) (by omega) (by have := hnw.size; simp; omega) (wr.heap.size + 1) (by simp) ?_; intro gg cap1 w1 hown1 hgrow hat hlt1))
      clear e1 e2 e3 j1 j2 j3 t1 t2 t3
      go_wp2
      go_roundw
      case rel =>
        rw [word_wrap y0 y1 y2 y3 x0 x1 x2 x3, ← hnext.out] at hown1
        exact ⟨k + 1, q + 4, _, rfl, by go_num, by have := hq.out; show q + 4 = 4 * (k + 1); omega, by omega, hown1, hnw.append hgrow (fun g hg => (hown.lt g hg).1)⟩
      case measure => simp [intOf]; omega
    · have hk4 : n / 4 = k := by have := hq.out; omega
      have hk4 := Lib.hid hk4
      go_wp2
      go_ret2
      exact ⟨_, rfl, by rw [hk4.out]; exact hown, hnw⟩
theorem words_bad (A : Option Addr) (n cap : Nat) (w : World) (hm : n ≤ maxLen) (h4 : n % 4 ≠ 0) :
    Calls Try.prog 59 #[.slice A n cap] w fun e w' => e = .returned (.tuple #[.slice none 0 0, .bool false]) ∧ w = w' := by
  unfold maxLen at hm
  have h4i : ((n : Int) % 4 == 0) = false := by simp; omega
  have h4j : ((n : Int) % 4 != 0) = true := by simp; omega
  go_enter Try.func59, Try.ntmps59
  go_wp2
  go_ret2
  exact ⟨rfl, rfl⟩
theorem SumMore_bad (a b c d : Int) (A : Option Addr) (n cap : Nat) (w : World) (hm : n ≤ maxLen) (h4 : n % 4 ≠ 0) :
    Calls Try.prog 44 #[four a b c d, .slice A n cap] w fun e w' => e = .returned (.tuple #[four 0 0 0 0, .int .i64 4]) ∧ New w w' := by
  go_enter Try.func44, Try.ntmps44
  go_wp2_with fail
  refine (words_bad A n cap _ hm h4).mono ?_
  rintro e w' ⟨rfl, rfl⟩
  go_wp2
  have hN : New w ((w.alloc (.cells #[.int .i64 a, .int .i64 b, .int .i64 c, .int .i64 d] 38)).alloc (.cells #[.int .i64 0, .int .i64 0, .int .i64 0, .int .i64 0] 38)) := ((New.refl _).alloc _).alloc _
  exact bodyPost_ret (v := .tuple #[four 0 0 0 0, .int .i64 4]) (by simp [results, Try.results44, go_sem]) rfl ⟨rfl, hN⟩
theorem SumMore_ok (a b c d : Int) (A : Option Addr) (n cap : Nat) (B : Nat → Nat) (w : World) (h : RdB w A n B) (h4 : n % 4 = 0) (hbig : n ≤ 1048576) :
    Calls Try.prog 44 #[four a b c d, .slice A n cap] w fun e w' => e = .returned (.tuple #[fourT (sums B (n / 4) (a, b, c, d)), .int .i64 0]) ∧ New w w' := by
  go_enter Try.func44, Try.ntmps44
  go_wp2_with fail
  have hS0 : Blk ((w.alloc (.cells #[.int .i64 a, .int .i64 b, .int .i64 c, .int .i64 d] 38)).alloc (.cells #[.int .i64 0, .int .i64 0, .int .i64 0, .int .i64 0] 38)) w.heap.size 38 #[.int .i64 a, .int .i64 b, .int .i64 c, .int .i64 d] := (Blk.fresh w _ _).alloc _
  have hR0 : Blk ((w.alloc (.cells #[.int .i64 a, .int .i64 b, .int .i64 c, .int .i64 d] 38)).alloc (.cells #[.int .i64 0, .int .i64 0, .int .i64 0, .int .i64 0] 38)) (w.heap.size + 1) 38 #[.int .i64 0, .int .i64 0, .int .i64 0, .int .i64 0] := by
    have := Blk.fresh (w.alloc (.cells #[.int .i64 a, .int .i64 b, .int .i64 c, .int .i64 d] 38)) 38 #[.int .i64 0, .int .i64 0, .int .i64 0, .int .i64 0]
    simpa using this
  refine (words_ok A n cap B _ (h.new (((New.refl _).alloc _).alloc _)) h4 hbig).mono ?_
  rintro e w1 ⟨v, rfl, hown, hn1⟩
  have hN1 : New w w1 := hn1.of_alloc.of_alloc
  have hS1 := hS0.new hn1
  have hR1 := hR0.new hn1
  clear hS0 hR0 hn1
  obtain ⟨V, cv, rfl, _, _, hV, hcell⟩ := own_open hown
  clear hown
  go_wp2
  go_loopw [20] (fun i wr => ∃ k : Nat, i = .int .i64 k ∧ k ≤ n / 4 ∧
      Blk wr w.heap.size 38 #[.int .i64 (sums B k (a, b, c, d)).1, .int .i64 (sums B k (a, b, c, d)).2.1, .int .i64 (sums B k (a, b, c, d)).2.2.1, .int .i64 (sums B k (a, b, c, d)).2.2.2] ∧
      Blk wr (w.heap.size + 1) 38 #[.int .i64 0, .int .i64 0, .int .i64 0, .int .i64 0] ∧ Below w.heap.size w wr ∧ (∀ p : Addr, w.heap.size + 2 ≤ p.block → wr.cell? p = w1.cell? p)) (fun i _ => n / 4 - (intOf i).toNat)
  case atStart => exact ⟨0, rfl, Nat.zero_le _, hS1, hR1, hN1, fun _ _ => rfl⟩
  case round =>
    obtain ⟨k, rfl, hk, hG, hR, hbel, hfar⟩ := hrel
    generalize hS : sums B k (a, b, c, d) = S at *
    obtain ⟨s1, s2, s3, s4⟩ := S
    dsimp only at hG
    by_cases hlt : k < n / 4
    · obtain ⟨g, rfl, hg1, hg2⟩ := hV (by omega)
      have hx : wr.cell? ⟨g, k, none⟩ = some (.int .i64 (wordZ B k)) := (hfar _ (by simpa using hg1)).trans (hcell g rfl k _ (by simp [wordsL, hlt]))
      have hstep : Hid (sums B (k + 1) (a, b, c, d) = (wA s1 (wordZ B k), wB s1 s2 (wordZ B k), wC s1 s2 s3 (wordZ B k), wD s1 s2 s3 s4 (wordZ B k))) := by
        show sums B (k + 1) (a, b, c, d) = _
        unfold sums
        rw [hS]
        rfl
      have c0 := hG.cell 0
      have c1 := hG.cell 1
      have c2 := hG.cell 2
      have c3 := hG.cell 3
      have e0 := hG.frozen 0
      have e1 := hG.frozen 1
      have e2 := hG.frozen 2
      have e3 := hG.frozen 3
      simp at c0 c1 c2 c3
      have hki : (k : Int) < ((n / 4 : Nat) : Int) := by omega
      have hfar2 := Lib.hid hfar
      have hcell2 := Lib.hid hcell
      have hS := Lib.hid hS
      clear hfar hcell
      generalize wordZ B k = x at *
      go_wp2
      go_roundw
      case rel =>
        rw [show wrap64 (s1 + x) = wA s1 x from rfl, show wrap64 (s2 + wA s1 x) = wB s1 s2 x from rfl, show wrap64 (s3 + wB s1 s2 x) = wC s1 s2 s3 x from rfl, show wrap64 (s4 + wC s1 s2 s3 x) = wD s1 s2 s3 s4 x from rfl]
        have hG4 := (((hG.put 0 (.int .i64 (wA s1 x))).put 1 (.int .i64 (wB s1 s2 x))).put 2 (.int .i64 (wC s1 s2 s3 x))).put 3 (.int .i64 (wD s1 s2 s3 s4 x))
        have hlt : w.heap.size ≤ w.heap.size := Nat.le_refl _
        refine ⟨k + 1, by go_num, by omega, ?_, ?_, ?_, ?_⟩
        · rw [hstep.out]; simpa using hG4
        · exact (((hR.far (by simp) _).far (by simp) _).far (by simp) _).far (by simp) _
        · exact (((hbel.setCell (p := ⟨w.heap.size, 0, none⟩) hlt _).setCell (p := ⟨w.heap.size, 1, none⟩) hlt _).setCell (p := ⟨w.heap.size, 2, none⟩) hlt _).setCell (p := ⟨w.heap.size, 3, none⟩) hlt _
        · intro p hp
          have hne : ∀ i, (⟨w.heap.size, i, none⟩ : Addr) ≠ p := fun i he => by subst he; simp at hp; omega
          rw [World.cell?_setCell_other _ _ _ _ (hne 3), World.cell?_setCell_other _ _ _ _ (hne 2), World.cell?_setCell_other _ _ _ _ (hne 1), World.cell?_setCell_other _ _ _ _ (hne 0)]
          exact hfar2.out p hp
      case measure => simp [intOf]; omega
    · have hk2 : k = n / 4 := by omega
      subst hk2
      have hS := Lib.hid hS
      have hfar2 := Lib.hid hfar
      clear hfar
      have c0 := hG.cell 0
      have c1 := hG.cell 1
      have c2 := hG.cell 2
      have c3 := hG.cell 3
      have r0 := hR.cell 0
      have r1 := hR.cell 1
      have r2 := hR.cell 2
      have r3 := hR.cell 3
      have e0 := hR.frozen 0
      have e1 := hR.frozen 1
      have e2 := hR.frozen 2
      have e3 := hR.frozen 3
      simp at c0 c1 c2 c3 r0 r1 r2 r3
      have hR3 := (((hR.put 0 (.int .i64 s1)).put 1 (.int .i64 s2)).put 2 (.int .i64 s3)).put 3 (.int .i64 s4)
      have q0 := hR3.cell 0
      have q1 := hR3.cell 1
      have q2 := hR3.cell 2
      have q3 := hR3.cell 3
      simp at q0 q1 q2 q3
      have hq := Lib.hid (And.intro q0 (And.intro q1 (And.intro q2 q3)))
      clear q0 q1 q2 q3
      have hlti : ¬ ((n / 4 : Nat) : Int) < ((n / 4 : Nat) : Int) := by omega
      go_wp2
      obtain ⟨q0, q1, q2, q3⟩ := hq.out
      have hlt : w.heap.size ≤ w.heap.size + 1 := by omega
      exact bodyPost_ret (v := .tuple #[four s1 s2 s3 s4, .int .i64 0]) (by simp [results, Try.results44, go_sem, q0, q1, q2, q3]) rfl ⟨by first | rfl | rw [hS.out],
        (((hbel.setCell (p := ⟨w.heap.size + 1, 0, none⟩) hlt _).setCell (p := ⟨w.heap.size + 1, 1, none⟩) hlt _).setCell (p := ⟨w.heap.size + 1, 2, none⟩) hlt _).setCell (p := ⟨w.heap.size + 1, 3, none⟩) hlt _⟩
end Go.Proofs.Ytjmjnodaohbpfaa.flet
