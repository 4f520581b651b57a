/-
  Contracts: a space behind records.
-/
import Derived.Test.YthjjchlibbheaaaSpaceMem
import Derived.Deep.DeepCutAuto
import Derived.Deep.CutBlock
namespace Go.Proofs.Ythjjchlibbheaaa.space
open Go.ChangeShapes Go.WideShapes Go.ChangeAt Go.RowKit Go.Proofs.Ythjjchlibbheaaa.kit Go.Deep
set_option linter.unusedVariables false

/-- records, read in memory -/
def RdR (w : World) (A : Option Addr) (m : Nat) (B : Nat → Bool) (F T : Nat → Int) : Prop :=
  m ≤ maxLen ∧ (0 < m → ∃ b off, A = some ⟨b, off, none⟩ ∧ b < w.heap.size ∧
    ∀ i, i < m → w.cell? ⟨b, off + i * 3, none⟩ = some (.bool (B i)) ∧ w.cell? ⟨b, off + i * 3 + 1, none⟩ = some (.int .i64 (F i)) ∧ w.cell? ⟨b, off + i * 3 + 2, none⟩ = some (.int .i64 (T i)))
theorem RdR.new {w w' : World} {A : Option Addr} {m : Nat} {B : Nat → Bool} {F T : Nat → Int} (h : RdR w A m B F T) (hn : New w w') : RdR w' A m B F T :=
  ⟨h.1, fun h0 => by
    obtain ⟨b, off, hA, hb, hc⟩ := h.2 h0
    exact ⟨b, off, hA, Nat.lt_of_lt_of_le hb hn.size, fun i hi => ⟨(hn.cell hb).trans (hc i hi).1, (hn.cell hb).trans (hc i hi).2.1, (hn.cell hb).trans (hc i hi).2.2⟩⟩⟩
def flagN (b : Bool) : Nat := if b then 1 else 0
theorem flagN_le (b : Bool) : flagN b ≤ 1 := by cases b <;> simp [flagN]
def okS (n : Nat) (u : Nat → Nat) (b : Bool) (f t : Int) : Prop := 0 ≤ f ∧ f < t ∧ t ≤ n ∧ allU u f.toNat (flagN b) (t.toNat - f.toNat) = true
def nxU (u : Nat → Nat) (b : Bool) (f t : Int) : Nat → Nat := setU u f.toNat t.toNat (1 - flagN b)
def uAt (B : Nat → Bool) (F T : Nat → Int) : Nat → Nat → Nat
  | 0 => fun _ => 0
  | i + 1 => nxU (uAt B F T i) (B i) (F i) (T i)
theorem uAt_le (B : Nat → Bool) (F T : Nat → Int) : ∀ i j, uAt B F T i j ≤ 1
  | 0, j => Nat.zero_le _
  | i + 1, j => by
    show (if _ then _ else _) ≤ 1
    split
    · exact Nat.sub_le _ _
    · exact uAt_le B F T i j
def okAll (n : Nat) (B : Nat → Bool) (F T : Nat → Int) (k : Nat) : Prop := ∀ i, i < k → okS n (uAt B F T i) (B i) (F i) (T i)
theorem infoByte : (Try.prog.info? 5).map (fun i => (i.zero, i.size, i.bytes)) = some (some (.int .u8 0), 1, 1) := by kernel_rfl
theorem infoInt : (Try.prog.info? 3).map (fun i => (i.zero, i.size, i.bytes)) = some (some (.int .i64 0), 1, 8) := by kernel_rfl
theorem SpaceAt.new {w w' : World} {G U n : Nat} {left : Int} {log : Value} {u : Nat → Nat} (h : SpaceAt w G U n left log u) (hn : New w w') : SpaceAt w' G U n left log u :=
  ⟨h.1.new hn, h.2.1.of_block (hn.block _ h.2.2), Nat.lt_of_lt_of_le h.2.2 hn.size⟩
theorem replayed_bad (n : Int) (v : Value) (w : World) (h : ¬ sizeP n) :
    Calls Try.prog 31 #[.int .i64 n, v] w fun e w' => e = .returned (.tuple #[.pointer none, .int .i64 2]) ∧ w = w' := by
  have hd : decide (sizeP n) = false := decide_eq_false h
  clear h
  go_enter Try.func31, Try.ntmps31
  go_wp2_with fail
  refine (sized_any _ _).mono ?_
  rw [hd]
  rintro e w1 ⟨rfl, rfl⟩
  go_wp2
  go_ret2
  exact ⟨rfl, rfl⟩
theorem replayed_long (n : Int) (A : Option Addr) (m c : Nat) (w : World) (h : sizeP n) (hm : 4096 < m) (hmx : m ≤ maxLen) :
    Calls Try.prog 31 #[.int .i64 n, .slice A m c] w fun e w' => e = .returned (.tuple #[.pointer none, .int .i64 1]) ∧ w = w' := by
  have hd : decide (sizeP n) = true := decide_eq_true h
  unfold maxLen at hmx
  clear h
  go_enter Try.func31, Try.ntmps31
  go_wp2_with fail
  refine (sized_any _ _).mono ?_
  rw [hd]
  rintro e w1 ⟨rfl, rfl⟩
  go_wp2
  go_ret2
  exact ⟨rfl, rfl⟩
theorem spaceAgain_bad (n : Int) (v : Value) (w : World) (h : ¬ sizeP n) :
    Calls Try.prog 34 #[.int .i64 n, v] w fun e w' => e = .returned (.tuple #[.slice none 0 0, .int .i64 2]) ∧ w = w' := by
  have hd : n < 1 ∨ 4096 < n := by unfold sizeP at h; omega
  clear h
  go_enter Try.func34, Try.ntmps34
  go_wp2
  all_goals go_ret2
  all_goals exact ⟨rfl, rfl⟩
theorem spaceAgain_long (n : Int) (A : Option Addr) (m c : Nat) (w : World) (h : sizeP n) (hm : 4096 < m) (hmx : m ≤ maxLen) :
    Calls Try.prog 34 #[.int .i64 n, .slice A m c] w fun e w' => e = .returned (.tuple #[.slice none 0 0, .int .i64 1]) ∧ w = w' := by
  obtain ⟨h1, h2⟩ := h
  unfold maxLen at hmx
  go_enter Try.func34, Try.ntmps34
  go_wp2
  all_goals go_ret2
  all_goals exact ⟨rfl, rfl⟩
set_option maxHeartbeats 1000000 in
theorem replayed_ok (n m c : Nat) (A : Option Addr) (B : Nat → Bool) (F T : Nat → Int) (w : World) (h1 : 1 ≤ n) (hn : n ≤ 4096) (hm : m ≤ 4096) (hR : RdR w A m B F T) :
    Calls Try.prog 31 #[.int .i64 n, .slice A m c] w fun e w' =>
      ((okAll n B F T m ∧ e = .returned (.tuple #[.pointer (some ⟨w.heap.size + 1, 0, none⟩), .int .i64 0]) ∧ SpaceAt w' (w.heap.size + 1) w.heap.size n 0 (.slice none 0 0) (uAt B F T m)) ∨
       (¬ okAll n B F T m ∧ e = .returned (.tuple #[.pointer none, .int .i64 4]))) ∧ New w w' := by
  have hd : decide (sizeP n) = true := decide_eq_true (by unfold sizeP; omega)
  have hR0 := Lib.hid hR
  clear hR
  obtain ⟨ok, hok⟩ : ∃ ok, Hid (ok = okAll n B F T) := ⟨_, (rfl : _ = _)⟩
  obtain ⟨uu, huu⟩ : ∃ uu, Hid (uu = uAt B F T) := ⟨_, (rfl : _ = _)⟩
  rw [← hok.out, ← huu.out]
  have hok0 : Hid (ok 0) := by rw [hok.out]; exact fun i hi => absurd hi (Nat.not_lt_zero i)
  have hokS : Hid (∀ i, ok i → okS n (uu i) (B i) (F i) (T i) → ok (i + 1)) := fun i h1 h2 => by
    rw [hok.out] at h1 ⊢
    rw [huu.out] at h2
    exact fun j hj => by
      by_cases hji : j = i
      · subst hji; exact h2
      · exact h1 j (by omega)
  have hokN : Hid (∀ i, i < m → ¬ okS n (uu i) (B i) (F i) (T i) → ¬ ok m) := fun i hi h2 h3 => by
    rw [hok.out] at h3; rw [huu.out] at h2; exact h2 (h3 i hi)
  have huS : Hid (∀ i, uu (i + 1) = nxU (uu i) (B i) (F i) (T i)) := fun i => by rw [huu.out]; exact (rfl : _ = _)
  have hul : Hid (∀ i j, uu i j ≤ 1) := by rw [huu.out]; exact uAt_le B F T
  have hu0 : Hid (uu 0 = fun _ => 0) := by rw [huu.out]; exact (rfl : _ = _)
  have hmk := run_make_row' (P := Try.prog) 79 5 (.int .u8 0) 1 Try.underlying79 infoByte rfl .i64 .i64 n (by omega) (by omega)
  go_enter Try.func31, Try.ntmps31
  go_wp2_with fail
  refine (sized_any _ _).mono ?_
  rw [hd]
  rintro e w1 ⟨rfl, rfl⟩
  go_wp2
  go_loopw [24] (fun k wr => ∃ i : Nat, k = .int .i64 i ∧ i ≤ m ∧ Hid (ok i) ∧ New w wr ∧ SpaceAt wr (w.heap.size + 1) w.heap.size n 0 (.slice none 0 0) (uu i)) (fun k _ => m - (intOf k).toNat)
  case atStart =>
    refine ⟨0, rfl, by omega, hok0.out, ((New.refl w).alloc _).alloc _, ?_, ?_, by simp; omega⟩
    · have := Blk.fresh (w.alloc (.cells (madeCells #[.int .u8 0] n) 5)) 81 #[.slice (some ⟨w.heap.size, 0, none⟩) n n, .int .i64 0, .slice none 0 0]
      simpa using this
    · rw [hu0.out]
      exact ((World.rowIs_made w (.int .u8 0) n 5).congr fun j hj => by simp [byF]).alloc _
  case round =>
    obtain ⟨i, rfl, hi, hoki, hnw, hSp⟩ := hrel
    by_cases hlt : i < m
    · obtain ⟨b, off, rfl, hb, hcs⟩ := hR0.out.2 (by omega)
      obtain ⟨fr, hfr⟩ : ∃ fr, Hid (fr = B i) := ⟨_, (rfl : _ = _)⟩
      obtain ⟨f, hf⟩ : ∃ f, Hid (f = F i) := ⟨_, (rfl : _ = _)⟩
      obtain ⟨t, ht⟩ : ∃ t, Hid (t = T i) := ⟨_, (rfl : _ = _)⟩
      have c0 := (hnw.cell (p := ⟨b, off + i * 3, none⟩) hb).trans (hcs i hlt).1
      have c1 := (hnw.cell (p := ⟨b, off + i * 3 + 1, none⟩) hb).trans (hcs i hlt).2.1
      have c2 := (hnw.cell (p := ⟨b, off + i * 3 + 2, none⟩) hb).trans (hcs i hlt).2.2
      rw [← hfr.out] at c0
      rw [← hf.out] at c1
      rw [← ht.out] at c2
      clear hcs
      go_upto_if 29 with fail
      obtain ⟨W1, hW1⟩ : ∃ W1, W1 = wr.alloc (.cells #[.bool fr, .int .i64 f, .int .i64 t] 77) := ⟨_, rfl⟩
      rw [← hW1]
      have k1 : Blk W1 wr.heap.size 77 #[.bool fr, .int .i64 f, .int .i64 t] := by rw [hW1]; exact Blk.fresh _ _ _
      have hN1 : New wr W1 := by rw [hW1]; exact (New.refl _).alloc _
      have hSp1 : SpaceAt W1 (w.heap.size + 1) w.heap.size n 0 (.slice none 0 0) (uu i) := hSp.new hN1
      have hwr : w.heap.size + 1 < wr.heap.size := hSp.1.lt
      clear hW1 hSp c0 c1 c2
      go_cut [9, 10] (fun x y wx => x = .int .u8 (flagN fr : Nat) ∧ y = .int .u8 ((1 - flagN fr : Nat) : Int) ∧ wx = W1)
      case first =>
        have c0 := k1.cell 0
        simp at c0
        cases fr with
        | true =>
          go_wp2
          go_meet
          exact ⟨rfl, rfl, rfl⟩
        | false =>
          go_wp2
          go_meet
          exact ⟨rfl, rfl, rfl⟩
      case rest =>
        obtain ⟨rfl, rfl, rfl⟩ := hcut
        obtain ⟨W1, hW1⟩ : ∃ W1, W1 = wc := ⟨_, rfl⟩
        subst hW1
        have c1 := k1.cell 1
        have c2 := k1.cell 2
        simp at c1 c2
        have hx1 := flagN_le fr
        by_cases hbd : 0 ≤ f ∧ f < t ∧ t ≤ (n : Int)
        · obtain ⟨g1, g2, g3⟩ := hbd
          obtain ⟨fN, rfl⟩ : ∃ fN : Nat, f = (fN : Int) := ⟨f.toNat, by omega⟩
          obtain ⟨tN, rfl⟩ : ∃ tN : Nat, t = (tN : Int) := ⟨t.toNat, by omega⟩
          have g4 : fN < tN := by omega
          have g5 : tN ≤ n := by omega
          obtain ⟨r, hr⟩ : ∃ r, Hid (r = allU (uu i) fN (flagN fr) (tN - fN)) := ⟨_, (rfl : _ = _)⟩
          have hokS1 : Hid (r = true → okS n (uu i) (B i) (F i) (T i)) := fun h => by
            rw [← hf.out, ← ht.out, ← hfr.out]
            exact ⟨g1, g2, g3, by rw [Int.toNat_natCast, Int.toNat_natCast, ← hr.out]; exact h⟩
          have hokN1 : Hid (r = false → ¬ okS n (uu i) (B i) (F i) (T i)) := fun h h2 => by
            have := h2.2.2.2
            rw [← hf.out, ← ht.out, ← hfr.out, Int.toNat_natCast, Int.toNat_natCast, ← hr.out, h] at this
            cases this
          have huS1 : Hid (uu (i + 1) = setU (uu i) fN tN (1 - flagN fr)) := by
            rw [huS.out, ← hf.out, ← ht.out, ← hfr.out]; exact (rfl : _ = _)
          have hx256 : flagN fr < 256 := by omega
          have hN2 : New W1 (W1.alloc (.cells #[.int .i64 fN, .int .i64 tN] 75)) := (New.refl _).alloc _
          have hbx : Blk (W1.alloc (.cells #[.int .i64 fN, .int .i64 tN] 75)) W1.heap.size 75 #[.int .i64 fN, .int .i64 tN] := Blk.fresh _ _ _
          go_wp2_with fail
          refine (all_ok (w.heap.size + 1) w.heap.size n fN tN (flagN fr) 0 (.slice none 0 0) (uu i) _ (hSp1.new hN2) g4 g5 hn hx256 (fun j => Nat.lt_of_le_of_lt (hul.out i j) (by omega))).mono ?_
          rw [← hr.out]
          rintro e w2 ⟨rfl, hn2⟩
          have hSp2 := (hSp1.new hN2).new hn2
          have hN3 : New w w2 := ((hnw.next hN1).next hN2).next hn2
          have hbx2 := hbx.new hn2
          have d0 := hbx2.cell 0
          have d1 := hbx2.cell 1
          simp at d0 d1
          have hW1l : W1.heap.size < w2.heap.size := hbx2.lt
          cases r with
          | false =>
            have hno : Hid (¬ ok m) := hokN.out i hlt (hokN1.out rfl)
            clear hokS1 hokN1
            go_wp2
            go_ret2
            exact ⟨.inr ⟨hno.out, rfl⟩, hN3⟩
          | true =>
            have hyes : Hid (ok (i + 1)) := hokS.out i hoki.out (hokS1.out rfl)
            clear hokS1 hokN1
            go_wp2_with fail
            refine (set_ok (w.heap.size + 1) w.heap.size n fN tN (1 - flagN fr) 0 (.slice none 0 0) (uu i) _ hSp2 (by omega) (by omega) g5 hn).mono ?_
            rintro e w3 ⟨rfl, hSp3, hgr⟩
            rw [← huS1.out] at hSp3
            have hN4 : New w w3 := Below.grown hN3 hgr hN3.size (fun g hg => by injection hg with hg; omega)
            have hSp4 := Lib.hid hSp3
            clear hSp3 hSp2 hSp1
            go_wp2
            go_roundw
            case rel => exact ⟨i + 1, by go_num, by omega, hyes, hN4, hSp4.out⟩
            case measure => simp [intOf]; omega
        · have hbd1 : f < 0 ∨ t ≤ f ∨ (n : Int) < t := by omega
          have hno : Hid (¬ ok m) := hokN.out i hlt fun h => hbd ⟨by rw [hf.out]; exact h.1, by rw [hf.out, ht.out]; exact h.2.1, by rw [ht.out]; exact h.2.2.1⟩
          clear hbd
          go_wp2
          all_goals go_ret2
          all_goals exact ⟨.inr ⟨hno.out, rfl⟩, (hnw.next hN1).alloc _⟩
    · have hin : i = m := by omega
      subst hin
      go_wp2
      go_ret2
      exact ⟨.inl ⟨hoki.out, rfl, hSp⟩, hnw⟩
end Go.Proofs.Ythjjchlibbheaaa.space
