/-
  Contracts of package flet and of the reference's flet.go.
-/
import Derived.Test.YtjmjnodaohbpfaaProg
import Derived.Test.YtjmjnodaohbpfaaQuietTail
import Derived.Test.YtjmjnodaohbpfaaBits
import Derived.Handy
import Derived.Deep.RegionHeld3
import Derived.Deep.AppendLies
namespace Go.Proofs.Ytjmjnodaohbpfaa.flet
open Go.ChangeShapes Go.WideShapes Go.ChangeAt Go.RowKit Go.Proofs.Ytjmjnodaohbpfaa.kit

abbrev four (a b c d : Int) : Value := .agg #[.int .i64 a, .int .i64 b, .int .i64 c, .int .i64 d]
theorem of_any (a b c d : Int) (w : World) :
    Calls Try.prog 67 #[four a b c d] w fun e w' => e = .returned (four a b c d) ∧ New w w' := by
  go_enter Try.func67, Try.ntmps67
  go_wp2
  exact bodyPost_ret (v := four a b c d) (by simp [results, Try.results67, go_sem]) rfl ⟨rfl, (((New.refl _).alloc _).alloc _)⟩
theorem sum_any (a b c d : Int) (w : World) :
    Calls Try.prog 69 #[four a b c d] w fun e w' => e = .returned (four a b c d) ∧ New w w' := by
  go_enter Try.func69, Try.ntmps69
  go_wp2
  exact bodyPost_ret (v := four a b c d) (by simp [results, Try.results69, go_sem]) rfl ⟨rfl, (((New.refl _).alloc _).alloc _)⟩
/-- one word more -/
def wA (a x : Int) : Int := wrap64 (a + x)
def wB (a b x : Int) : Int := wrap64 (b + wA a x)
def wC (a b c x : Int) : Int := wrap64 (c + wB a b x)
def wD (a b c d x : Int) : Int := wrap64 (d + wC a b c x)
theorem word_any (a b c d x : Int) (w : World) :
    Calls Try.prog 68 #[four a b c d, .int .i64 x] w fun e w' => e = .returned (four (wA a x) (wB a b x) (wC a b c x) (wD a b c d x)) ∧ New w w' := by
  go_enter Try.func68, Try.ntmps68
  go_wp2
  go_rounds 5
  exact bodyPost_ret (v := four (wA a x) (wB a b x) (wC a b c x) (wD a b c d x)) (by simp [results, Try.results68, go_sem, wA, wB, wC, wD]) rfl ⟨rfl, (((New.refl _).alloc _).alloc _)⟩

/-- a list of bytes, read in memory -/
def RdB (w : World) (A : Option Addr) (n : Nat) (B : Nat → Nat) : Prop :=
  n ≤ maxLen ∧ (∀ i, i < n → B i < 256) ∧ (0 < n → ∃ b off, A = some ⟨b, off, none⟩ ∧ b < w.heap.size ∧ ∀ i, i < n → w.cell? ⟨b, off + i, none⟩ = some (.int .u8 (B i : Nat)))
theorem RdB.new {w w' : World} {A : Option Addr} {n : Nat} {B : Nat → Nat} (h : RdB w A n B) (hn : New w w') : RdB w' A n B :=
  ⟨h.1, h.2.1, fun h0 => by
    obtain ⟨b, off, hA, hb, hc⟩ := h.2.2 h0
    exact ⟨b, off, hA, Nat.lt_of_lt_of_le hb hn.size, fun i hi => (hn.cell hb).trans (hc i hi)⟩⟩
/-- the first k bytes cut off; c is the capacity -/
theorem RdB.cut {w : World} {A : Option Addr} {n c k : Nat} {B : Nat → Nat} (h : RdB w A n B) (hk : k ≤ n) (hc : n ≤ c) :
    RdB w (if c = k then A else A.map (·.add k)) (n - k) (fun i => B (k + i)) := by
  refine ⟨Nat.le_trans (Nat.sub_le _ _) h.1, fun i hi => h.2.1 _ (by omega), fun h0 => ?_⟩
  obtain ⟨b, off, rfl, hb, hcs⟩ := h.2.2 (by omega)
  rw [if_neg (by omega)]
  refine ⟨b, off + k, ?_, hb, fun i hi => ?_⟩
  · simp [add_cell]
  · have := hcs (k + i) (by omega)
    rw [Nat.add_assoc]
    exact this
def wordN (x y z t : Nat) : Nat := x + y * 256 + z * 65536 + t * 16777216
theorem or_shift (x y i : Nat) (hx : x < 2 ^ i) (hs : y * 2 ^ i + 2 ^ i ≤ 9223372036854775808) : bits .or .i64 (x : Int) ((y : Int) * (2 ^ i : Nat)) = (x : Int) + (y : Int) * (2 ^ i : Nat) := by
  have h1 : ((y : Int) * (2 ^ i : Nat)) = ((y * 2 ^ i : Nat) : Int) := by rw [Int.natCast_mul]
  rw [h1, i64_or_nat x (y * 2 ^ i) (by omega) (by omega)]
  have h2 : x ||| y * 2 ^ i = y * 2 ^ i + x := by
    rw [Nat.or_comm]
    exact nat_join i (y * 2 ^ i) x (Nat.mul_mod_left _ _) hx
  rw [h2]
  omega
/-- the sums of a list of words, from a sum on -/
def sums (B : Nat → Nat) : Nat → Int × Int × Int × Int → Int × Int × Int × Int
  | 0, s => s
  | k + 1, s =>
    let t := sums B k s
    let x : Int := wordN (B (4 * k)) (B (4 * k + 1)) (B (4 * k + 2)) (B (4 * k + 3))
    (wA t.1 x, wB t.1 t.2.1 x, wC t.1 t.2.1 t.2.2.1 x, wD t.1 t.2.1 t.2.2.1 t.2.2.2 x)
abbrev fourT (s : Int × Int × Int × Int) : Value := four s.1 s.2.1 s.2.2.1 s.2.2.2
def sliceLen : Value → Nat | .slice _ n _ => n | _ => 0
theorem More_ok (a b c d : Int) (A : Option Addr) (n cap : Nat) (B : Nat → Nat) (w : World) (h : RdB w A n B) (hcap : n ≤ cap) (h4 : n % 4 = 0) :
    Calls Try.prog 58 #[four a b c d, .slice A n cap] w fun e w' => e = .returned (.tuple #[fourT (sums B (n / 4) (a, b, c, d)), .int .i64 0]) ∧ New w w' := by
  have hm := h.1
  unfold maxLen at hm
  have h4i : ((n : Int) % 4 == 0) = true := by simp; omega
  have h4j : ((n : Int) % 4 != 0) = false := by simp; omega
  go_enter Try.func58, Try.ntmps58
  go_wp2_with fail
  refine (of_any _ _ _ _ _).mono ?_
  rintro e w1 ⟨rfl, hn1⟩
  go_wp2_with fail
  have hB0 : Blk (w1.alloc (.cells #[.int .i64 a, .int .i64 b, .int .i64 c, .int .i64 d] 97)) w1.heap.size 97 #[.int .i64 a, .int .i64 b, .int .i64 c, .int .i64 d] := Blk.fresh _ _ _
  have hR0 : Blk w1 (w.heap.size + 1) 38 #[.int .i64 0, .int .i64 0, .int .i64 0, .int .i64 0] := by
    refine Blk.new (w := (w.alloc (.cells #[.int .i64 a, .int .i64 b, .int .i64 c, .int .i64 d] 38)).alloc (.cells #[.int .i64 0, .int .i64 0, .int .i64 0, .int .i64 0] 38)) ?_ (by first | exact hn1 | skip)
    have := Blk.fresh (w.alloc (.cells #[.int .i64 a, .int .i64 b, .int .i64 c, .int .i64 d] 38)) 38 #[.int .i64 0, .int .i64 0, .int .i64 0, .int .i64 0]
    simpa using this
  have hN1 : New w w1 := hn1.of_alloc.of_alloc
  have hne : w.heap.size + 1 ≠ w1.heap.size := by have := hR0.lt; omega
  go_loopw [1] (fun s wr => ∃ (k m cap' : Nat) (A' : Option Addr), s = .slice A' m cap' ∧ m + 4 * k = n ∧ m ≤ cap' ∧ cap' ≤ cap ∧ RdB w A' m (fun i => B (4 * k + i)) ∧
      Blk wr w1.heap.size 97 #[.int .i64 (sums B k (a, b, c, d)).1, .int .i64 (sums B k (a, b, c, d)).2.1, .int .i64 (sums B k (a, b, c, d)).2.2.1, .int .i64 (sums B k (a, b, c, d)).2.2.2] ∧
      Blk wr (w.heap.size + 1) 38 #[.int .i64 0, .int .i64 0, .int .i64 0, .int .i64 0] ∧ Below w.heap.size w wr) (fun s _ => sliceLen s)
  case atStart => exact ⟨0, n, cap, A, rfl, rfl, hcap, Nat.le_refl _, by simpa using h, hB0, hR0.alloc _, hN1.alloc _⟩
  case round =>
    obtain ⟨k, m, cap', A', rfl, hk, hmc, hcc, hrd, hG, hR, hbel⟩ := hrel
    generalize hS : sums B k (a, b, c, d) = S at *
    obtain ⟨s1, s2, s3, s4⟩ := S
    dsimp only at hG
    by_cases hm0 : 0 < m
    · obtain ⟨bb, off, rfl, hbb, hcs⟩ := hrd.2.2 hm0
      have hm4 : 4 ≤ m := by omega
      have b0 := NewW.keep ((hbel.cell hbb).trans (hcs 0 (by omega)))
      have b1 := NewW.keep ((hbel.cell hbb).trans (hcs 1 (by omega)))
      have b2 := NewW.keep ((hbel.cell hbb).trans (hcs 2 (by omega)))
      have b3 := NewW.keep ((hbel.cell hbb).trans (hcs 3 (by omega)))
      have g0 := NewW.keep (hG.cell 0)
      have g1 := NewW.keep (hG.cell 1)
      have g2 := NewW.keep (hG.cell 2)
      have g3 := NewW.keep (hG.cell 3)
      simp at b0 g0 g1 g2 g3
      dsimp only at b1 b2 b3
      have x0 := hrd.2.1 0 (by omega)
      have x1 := hrd.2.1 1 (by omega)
      have x2 := hrd.2.1 2 (by omega)
      have x3 := hrd.2.1 3 (by omega)
      dsimp only [Nat.add_zero] at x0 x1 x2 x3
      have hcut := Lib.hid (hrd.cut (c := cap') (k := 4) hm4 hmc)
      have hstep : Hid (sums B (k + 1) (a, b, c, d) = (wA s1 (wordN (B (4 * k)) (B (4 * k + 1)) (B (4 * k + 2)) (B (4 * k + 3))), wB s1 s2 (wordN (B (4 * k)) (B (4 * k + 1)) (B (4 * k + 2)) (B (4 * k + 3))), wC s1 s2 s3 (wordN (B (4 * k)) (B (4 * k + 1)) (B (4 * k + 2)) (B (4 * k + 3))), wD s1 s2 s3 s4 (wordN (B (4 * k)) (B (4 * k + 1)) (B (4 * k + 2)) (B (4 * k + 3))))) := by
        show sums B (k + 1) (a, b, c, d) = _
        unfold sums
        rw [hS]
      clear hcs
      generalize B (4 * k) = y0 at *
      generalize B (4 * k + 1) = y1 at *
      generalize B (4 * k + 2) = y2 at *
      generalize B (4 * k + 3) = y3 at *
      have o1 : bits .or .i64 (y0 : Int) ((y1 : Int) * 256) = (y0 : Int) + (y1 : Int) * 256 := or_shift y0 y1 8 (by omega) (by omega)
      have o2 : bits .or .i64 ((y0 : Int) + (y1 : Int) * 256) ((y2 : Int) * 65536) = (y0 : Int) + (y1 : Int) * 256 + (y2 : Int) * 65536 := by
        have := or_shift (y0 + y1 * 256) y2 16 (by omega) (by omega)
        simpa using this
      have o3 : bits .or .i64 ((y0 : Int) + (y1 : Int) * 256 + (y2 : Int) * 65536) ((y3 : Int) * 16777216) = (y0 : Int) + (y1 : Int) * 256 + (y2 : Int) * 65536 + (y3 : Int) * 16777216 := by
        have := or_shift (y0 + y1 * 256 + y2 * 65536) y3 24 (by omega) (by omega)
        simpa using this
      have i1 : (1 : Int) < (m : Int) := by omega
      have i2 : (2 : Int) < (m : Int) := by omega
      have i3 : (3 : Int) < (m : Int) := by omega
      have i4 : (4 : Int) ≤ (m : Int) := by omega
      have i5 : (m : Int) ≤ (cap' : Int) := by omega
      have hS := Lib.hid hS
      go_wp2
      (refine wp_region_new_tail 24 (by kernel_rfl) (by kernel_rfl) ?_; simp only [List.take_succ_cons, List.take_zero, List.drop_succ_cons, List.drop_zero]; (repeat (first | go_big_quiet_step (first | (go_at_call 68; exact NewW.call _ (word_any _ _ _ _ _ _))) | quiet_step (first | (go_at_call 68; exact NewW.call _ (word_any _ _ _ _ _ _))))); refine wpQuiet_nil ?_; rintro W2 ⟨⟨_, hn_W2⟩, rfl⟩)
      have hG2 := hG.new hn_W2
      have c0 : W2.cell? ⟨w1.heap.size, 0, none⟩ = some (.int .i64 s1) := hG2.cell 0
      have c1 : W2.cell? ⟨w1.heap.size, 1, none⟩ = some (.int .i64 s2) := hG2.cell 1
      have c2 : W2.cell? ⟨w1.heap.size, 2, none⟩ = some (.int .i64 s3) := hG2.cell 2
      have c3 : W2.cell? ⟨w1.heap.size, 3, none⟩ = some (.int .i64 s4) := hG2.cell 3
      have e0 := hG2.frozen 0
      have e1 := hG2.frozen 1
      have e2 := hG2.frozen 2
      have e3 := hG2.frozen 3
      clear b0 b1 b2 b3 g0 g1 g2 g3
      go_wp2
      go_roundw
      case rel =>
        have hw : ((wordN y0 y1 y2 y3 : Nat) : Int) = (y0 : Int) + (y1 : Int) * 256 + (y2 : Int) * 65536 + (y3 : Int) * 16777216 := by unfold wordN; omega
        rw [← hw]
        have hlt : w.heap.size ≤ w1.heap.size := hN1.size
        refine ⟨k + 1, m - 4, cap' - 4, _, rfl, by omega, by omega, by omega, ?_, ?_, ?_, ?_⟩
        · have := hcut.out
          simp only [Option.map_some, add_cell] at this
          have e : (fun i => B (4 * (k + 1) + i)) = fun i => B (4 * k + (4 + i)) := funext fun i => congrArg B (by omega)
          rw [e]
          exact this
        · rw [hstep.out]
          have := (((hG2.put 0 (.int .i64 (wA s1 (wordN y0 y1 y2 y3 : Nat)))).put 1 (.int .i64 (wB s1 s2 (wordN y0 y1 y2 y3 : Nat)))).put 2 (.int .i64 (wC s1 s2 s3 (wordN y0 y1 y2 y3 : Nat)))).put 3 (.int .i64 (wD s1 s2 s3 s4 (wordN y0 y1 y2 y3 : Nat)))
          simpa using this
        · exact ((((hR.new hn_W2).far hne _).far hne _).far hne _).far hne _
        · exact ((((Below.next hbel hn_W2 (by have := hbel.size; omega)).setCell (p := ⟨w1.heap.size, 0, none⟩) hlt _).setCell (p := ⟨w1.heap.size, 1, none⟩) hlt _).setCell (p := ⟨w1.heap.size, 2, none⟩) hlt _).setCell (p := ⟨w1.heap.size, 3, none⟩) hlt _
      case measure => simp [sliceLen]; omega
    · have hm0' : m = 0 := by omega
      subst hm0'
      have hn4 : n / 4 = k := by omega
      have hfin : Hid (sums B (n / 4) (a, b, c, d) = (s1, s2, s3, s4)) := by rw [hn4]; exact hS
      have c0 := hG.cell 0
      have c1 := hG.cell 1
      have c2 := hG.cell 2
      have c3 := hG.cell 3
      simp at c0 c1 c2 c3
      have hS := Lib.hid hS
      go_wp2_with fail
      refine (sum_any _ _ _ _ _).mono ?_
      rintro e w2 ⟨rfl, hn2⟩
      have hR2 := hR.new hn2
      have d0 : w2.cell? ⟨w.heap.size + 1, 0, none⟩ = some (.int .i64 0) := hR2.cell 0
      have d1 : w2.cell? ⟨w.heap.size + 1, 1, none⟩ = some (.int .i64 0) := hR2.cell 1
      have d2 : w2.cell? ⟨w.heap.size + 1, 2, none⟩ = some (.int .i64 0) := hR2.cell 2
      have d3 : w2.cell? ⟨w.heap.size + 1, 3, none⟩ = some (.int .i64 0) := hR2.cell 3
      have e0 := hR2.frozen 0
      have e1 := hR2.frozen 1
      have e2 := hR2.frozen 2
      have e3 := hR2.frozen 3
      have hR3 := (((hR2.put 0 (.int .i64 s1)).put 1 (.int .i64 s2)).put 2 (.int .i64 s3)).put 3 (.int .i64 s4)
      have q0 := hR3.cell 0
      have q1 := hR3.cell 1
      have q2 := hR3.cell 2
      have q3 := hR3.cell 3
      simp at q0 q1 q2 q3
      have hbel2 := Below.next hbel hn2 (by have := hbel.size; omega)
      have hq := Lib.hid (And.intro q0 (And.intro q1 (And.intro q2 q3)))
      clear q0 q1 q2 q3
      go_wp2
      obtain ⟨q0, q1, q2, q3⟩ := hq.out
      have hlt : w.heap.size ≤ w.heap.size + 1 := by omega
      exact bodyPost_ret (v := .tuple #[four s1 s2 s3 s4, .int .i64 0]) (by simp [results, Try.results58, go_sem, q0, q1, q2, q3]) rfl ⟨by rw [hfin.out],
        (((hbel2.setCell (p := ⟨w.heap.size + 1, 0, none⟩) hlt _).setCell (p := ⟨w.heap.size + 1, 1, none⟩) hlt _).setCell (p := ⟨w.heap.size + 1, 2, none⟩) hlt _).setCell (p := ⟨w.heap.size + 1, 3, none⟩) hlt _⟩
theorem More_bad (a b c d : Int) (A : Option Addr) (n cap : Nat) (w : World) (hm : n ≤ maxLen) (h4 : n % 4 ≠ 0) :
    Calls Try.prog 58 #[four a b c d, .slice A n cap] w fun e w' => e = .returned (.tuple #[four 0 0 0 0, .int .i64 4]) ∧ New w w' := by
  unfold maxLen at hm
  have h4i : ((n : Int) % 4 == 0) = false := by simp; omega
  have h4j : ((n : Int) % 4 != 0) = true := by simp; omega
  go_enter Try.func58, Try.ntmps58
  go_wp2_with fail
  have hN : New w ((w.alloc (.cells #[.int .i64 a, .int .i64 b, .int .i64 c, .int .i64 d] 38)).alloc (.cells #[.int .i64 0, .int .i64 0, .int .i64 0, .int .i64 0] 38)) := ((New.refl _).alloc _).alloc _
  exact bodyPost_ret (v := .tuple #[four 0 0 0 0, .int .i64 4]) (by simp [results, Try.results58, go_sem]) rfl ⟨rfl, hN⟩
theorem Of_ok (A : Option Addr) (n cap : Nat) (B : Nat → Nat) (w : World) (h : RdB w A n B) (hcap : n ≤ cap) (h4 : n % 4 = 0) :
    Calls Try.prog 41 #[.slice A n cap] w fun e w' => e = .returned (.tuple #[fourT (sums B (n / 4) (0, 0, 0, 0)), .int .i64 0]) ∧ New w w' := by
  go_enter Try.func41, Try.ntmps41
  go_wp2_with fail
  refine (More_ok 0 0 0 0 A n cap B _ (h.new ((New.refl _).alloc _)) hcap h4).mono ?_
  generalize hS : sums B (n / 4) (0, 0, 0, 0) = S
  obtain ⟨s1, s2, s3, s4⟩ := S
  have hS := Lib.hid hS
  rintro e w2 ⟨rfl, hn2⟩
  have hR2 : Blk w2 w.heap.size 38 #[.int .i64 0, .int .i64 0, .int .i64 0, .int .i64 0] := (Blk.fresh w 38 _).new hn2
  have hB2 : New w w2 := hn2.of_alloc
  have d0 : w2.cell? ⟨w.heap.size, 0, none⟩ = some (.int .i64 0) := hR2.cell 0
  have d1 : w2.cell? ⟨w.heap.size, 1, none⟩ = some (.int .i64 0) := hR2.cell 1
  have d2 : w2.cell? ⟨w.heap.size, 2, none⟩ = some (.int .i64 0) := hR2.cell 2
  have d3 : w2.cell? ⟨w.heap.size, 3, none⟩ = some (.int .i64 0) := hR2.cell 3
  have e0 := hR2.frozen 0
  have e1 := hR2.frozen 1
  have e2 := hR2.frozen 2
  have e3 := hR2.frozen 3
  have hR3 := (((hR2.put 0 (.int .i64 s1)).put 1 (.int .i64 s2)).put 2 (.int .i64 s3)).put 3 (.int .i64 s4)
  have q0 := hR3.cell 0
  have q1 := hR3.cell 1
  have q2 := hR3.cell 2
  have q3 := hR3.cell 3
  simp at q0 q1 q2 q3
  have hq := Lib.hid (And.intro q0 (And.intro q1 (And.intro q2 q3)))
  clear q0 q1 q2 q3
  go_wp2
  obtain ⟨q0, q1, q2, q3⟩ := hq.out
  have hlt : w.heap.size ≤ w.heap.size := Nat.le_refl _
  exact bodyPost_ret (v := .tuple #[four s1 s2 s3 s4, .int .i64 0]) (by simp [results, Try.results41, go_sem, q0, q1, q2, q3]) rfl ⟨by rw [hS.out],
    (((hB2.setCell (p := ⟨w.heap.size, 0, none⟩) hlt _).setCell (p := ⟨w.heap.size, 1, none⟩) hlt _).setCell (p := ⟨w.heap.size, 2, none⟩) hlt _).setCell (p := ⟨w.heap.size, 3, none⟩) hlt _⟩
theorem Of_bad (A : Option Addr) (n cap : Nat) (w : World) (hm : n ≤ maxLen) (h4 : n % 4 ≠ 0) :
    Calls Try.prog 41 #[.slice A n cap] w fun e w' => e = .returned (.tuple #[four 0 0 0 0, .int .i64 4]) ∧ New w w' := by
  go_enter Try.func41, Try.ntmps41
  go_wp2_with fail
  refine (More_bad 0 0 0 0 A n cap _ hm h4).mono ?_
  rintro e w2 ⟨rfl, hn2⟩
  have hR2 : Blk w2 w.heap.size 38 #[.int .i64 0, .int .i64 0, .int .i64 0, .int .i64 0] := (Blk.fresh w 38 _).new hn2
  have hB2 : New w w2 := hn2.of_alloc
  have d0 : w2.cell? ⟨w.heap.size, 0, none⟩ = some (.int .i64 0) := hR2.cell 0
  have d1 : w2.cell? ⟨w.heap.size, 1, none⟩ = some (.int .i64 0) := hR2.cell 1
  have d2 : w2.cell? ⟨w.heap.size, 2, none⟩ = some (.int .i64 0) := hR2.cell 2
  have d3 : w2.cell? ⟨w.heap.size, 3, none⟩ = some (.int .i64 0) := hR2.cell 3
  have e0 := hR2.frozen 0
  have e1 := hR2.frozen 1
  have e2 := hR2.frozen 2
  have e3 := hR2.frozen 3
  have hR3 := (((hR2.put 0 (.int .i64 0)).put 1 (.int .i64 0)).put 2 (.int .i64 0)).put 3 (.int .i64 0)
  have q0 := hR3.cell 0
  have q1 := hR3.cell 1
  have q2 := hR3.cell 2
  have q3 := hR3.cell 3
  simp at q0 q1 q2 q3
  have hq := Lib.hid (And.intro q0 (And.intro q1 (And.intro q2 q3)))
  clear q0 q1 q2 q3
  go_wp2
  obtain ⟨q0, q1, q2, q3⟩ := hq.out
  have hlt : w.heap.size ≤ w.heap.size := Nat.le_refl _
  exact bodyPost_ret (v := .tuple #[four 0 0 0 0, .int .i64 4]) (by simp [results, Try.results41, go_sem, q0, q1, q2, q3]) rfl ⟨rfl,
    (((hB2.setCell (p := ⟨w.heap.size, 0, none⟩) hlt _).setCell (p := ⟨w.heap.size, 1, none⟩) hlt _).setCell (p := ⟨w.heap.size, 2, none⟩) hlt _).setCell (p := ⟨w.heap.size, 3, none⟩) hlt _⟩
end Go.Proofs.Ytjmjnodaohbpfaa.flet
