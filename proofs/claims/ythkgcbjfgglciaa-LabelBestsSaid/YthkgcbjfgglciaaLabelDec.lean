/-
  Contract of label.Decode.
-/
import Derived.Test.YthkgcbjfgglciaaLabelNum
namespace Go.Proofs.Ythkgcbjfgglciaa.label
open Go.ChangeShapes Go.WideShapes Go.ChangeAt Go.RowKit Go.Proofs.Ythkgcbjfgglciaa.kit Go.Proofs.Ythkgcbjfgglciaa.flet Go.Deep
set_option linter.unusedVariables false

/-- the numbers that a sector tells -/
def numX (B : Nat → Nat) (i : Nat) : Int := if i < 9 then ((numN (fun q => B (4 * i + q)) 4 : Nat) : Int) else wrap64 (numN (fun q => B (36 + 8 * (i - 9) + q)) 8 : Nat)
def seB (B : Nat → Nat) (j : Nat) : Int := wrap64 (numN (fun q => B (96 + 8 * j + q)) 8 : Nat)
def sumS (B : Nat → Nat) : Int × Int × Int × Int := sums B 24 (0, 0, 0, 0)
theorem numX_bd (B : Nat → Nat) (hB : ∀ i, i < 128 → B i < 256) (i : Nat) (hi : i < 13) : i64P (numX B i) := by
  unfold numX
  split
  · have : numN (fun q => B (4 * i + q)) 4 < 4294967296 := numT_lt (B := fun q => B (4 * i + q)) (s := 4) (fun q hq => hB _ (by omega)) 4 (Nat.le_refl _)
    unfold i64P
    omega
  · exact wrap_bd _
/-- the sum is the seal -/
def sealP (B : Nat → Nat) : Prop := ∀ j, j < 4 → at4 (sumS B) j = seB B j
instance (B : Nat → Nat) : Decidable (sealP B) := by unfold sealP; infer_instance
/-- the sector is that of its numbers -/
def headP (B : Nat → Nat) : Prop := ∀ i, i < 96 → labF (numX B) (fun _ => 0) i = B i
instance (B : Nat → Nat) : Decidable (headP B) := by unfold headP; infer_instance
def bodyP (B : Nat → Nat) : Prop := okX (numX B) ∧ headP B
instance (B : Nat → Nat) : Decidable (bodyP B) := by unfold bodyP; infer_instance
def decCode (n : Nat) (B : Nat → Nat) : Int := if n = 128 then (if sealP B then (if bodyP B then 0 else 4) else 11) else 1
def decX (n : Nat) (B : Nat → Nat) : Nat → Int := fun i => if decCode n B = 0 then numX B i else 0
theorem at4_bd (B : Nat → Nat) (j : Nat) : i64P (at4 (sumS B) j) := by
  have h := sums_bd B 24 (by omega) (0, 0, 0, 0)
  unfold at4 sumS
  repeat' split
  · exact h.1
  · exact h.2.1
  · exact h.2.2.1
  · exact h.2.2.2
/-- of a sector with the right seal: its head decides -/
theorem full_iff (B : Nat → Nat) (hB : ∀ i, i < 128 → B i < 256) (hs : sealP B) : (∀ i, i < 128 → labF (numX B) (sealX (numX B)) i = B i) ↔ headP B := by
  constructor
  · intro h i hi
    rw [labF_head _ _ (sealX (numX B)) i hi]
    exact h i (by omega)
  · intro h i hi
    by_cases h96 : i < 96
    · rw [labF_head _ _ (fun _ => 0) i h96]
      exact h i h96
    · have e := labF_seal (numX B) (sealX (numX B)) ((i - 96) / 8) ((i - 96) % 8) (by omega) (by omega)
      rw [show 96 + 8 * ((i - 96) / 8) + (i - 96) % 8 = i by omega] at e
      rw [e]
      have hS : sealS (numX B) = sumS B := sums_same (0, 0, 0, 0) 24 fun i hi => h i (by omega)
      have h2 := hs ((i - 96) / 8) (by omega)
      have h3 := (num_iff (at4 (sumS B) ((i - 96) / 8)) (fun q => B (96 + 8 * ((i - 96) / 8) + q)) (fun q hq => hB _ (by omega)) (at4_bd B _).1 (at4_bd B _).2).1 h2 ((i - 96) % 8) (by omega)
      unfold sealX
      rw [hS, h3, show 96 + 8 * ((i - 96) / 8) + (i - 96) % 8 = i by omega]
theorem dec_seal {B : Nat → Nat} (h : ¬ sealP B) : decCode 128 B = 11 := by unfold decCode; rw [if_pos rfl, if_neg h]
theorem dec_bad {B : Nat → Nat} (h : sealP B) (h2 : ¬ bodyP B) : decCode 128 B = 4 := by unfold decCode; rw [if_pos rfl, if_pos h, if_neg h2]
theorem dec_good {B : Nat → Nat} (h : sealP B) (h2 : bodyP B) : decCode 128 B = 0 := by unfold decCode; rw [if_pos rfl, if_pos h, if_pos h2]
theorem decX_bad {B : Nat → Nat} (h : decCode 128 B ≠ 0) : decX 128 B = fun _ => 0 := by funext i; unfold decX; rw [if_neg h]
theorem decX_good {B : Nat → Nat} (h : decCode 128 B = 0) : decX 128 B = numX B := by funext i; unfold decX; rw [if_pos h]
/-- are two lists of bytes alike? -/
def eqB (F G : Nat → Nat) (n : Nat) : Bool := decide (∀ i, i < n → F i = G i)
theorem eqB_bad {F G : Nat → Nat} {n i : Nat} (hi : i < n) (h : F i ≠ G i) : eqB F G n = false := decide_eq_false fun hh => h (hh i hi)
theorem eqB_out {F G : Nat → Nat} {n : Nat} (h : eqB F G n = true) : ∀ i, i < n → F i = G i := of_decide_eq_true h
theorem eqB_true {F G : Nat → Nat} {n : Nat} (h : ∀ i, i < n → F i = G i) : eqB F G n = true := decide_eq_true h
attribute [local irreducible] eqB
theorem Equal_any (A B : Option Addr) (n c d : Nat) (Y Z : Nat → Nat) (w : World) (hY : RdB w A n Y) (hZ : RdB w B n Z) :
    Calls Try.prog 61 #[.slice A n c, .slice B n d] w fun e w' => e = .returned (.bool (eqB Y Z n)) ∧ New w w' := by
  have hm := hY.1
  unfold maxLen at hm
  have hY0 := Lib.hid hY
  have hZ0 := Lib.hid hZ
  clear hY hZ
  go_enter Try.func61, Try.ntmps61
  go_wp2
  go_loopw [13] (fun k wr => ∃ i : Nat, k = .int .i64 i ∧ i ≤ n ∧ New w wr ∧ Hid (∀ j, j < i → Y j = Z j)) (fun k _ => n - (intOf k).toNat)
  case atStart => exact ⟨0, rfl, by omega, New.refl w, fun j h => absurd h (Nat.not_lt_zero j)⟩
  case round =>
    obtain ⟨i, rfl, hi, hnw, hall⟩ := hrel
    by_cases hlt : i < n
    · obtain ⟨b, off, rfl, hb, hcs⟩ := hY0.out.2.2 (by omega)
      obtain ⟨b', off', rfl, hb', hcs'⟩ := hZ0.out.2.2 (by omega)
      have c0 := (hnw.cell hb).trans (hcs i hlt)
      have c1 := (hnw.cell hb').trans (hcs' i hlt)
      have hbad := Lib.hid (fun h : Y i ≠ Z i => eqB_bad hlt h)
      have hlti : (i : Int) < n := by omega
      have hge : (0 : Int) ≤ i := by omega
      by_cases he : Y i = Z i
      · have hs : Hid (∀ j, j < i + 1 → Y j = Z j) := fun j hj => by
          by_cases hji : j = i
          · subst hji; exact he
          · exact hall.out j (by omega)
        rw [← he] at c1
        clear hcs hcs' he
        generalize Y i = y at *
        go_wp2
        go_quiet (fail)
        go_wp2
        go_roundw
        case rel => exact ⟨i + 1, by go_num, by omega, hnw.drewN _, hs⟩
        case measure => simp [intOf]; omega
      · have hbd := Lib.hid (hbad.out he)
        clear hcs hcs'
        generalize Y i = y at *
        generalize Z i = z at *
        have hne : ((y : Int) != (z : Int)) = true := by simp; omega
        have hne2 : ((y : Int) == (z : Int)) = false := by simp; omega
        clear he
        go_wp2
        go_quiet (fail)
        go_wp2
        go_ret
        exact ⟨retb hbd.out.symm, hnw.drewN _⟩
    · have hin : i = n := by omega
      subst hin
      have hbd := Lib.hid (eqB_true hall.out)
      go_wp2
      go_ret
      exact ⟨retb hbd.out.symm, hnw⟩
theorem blk_at {w : World} {t : TypeId} {cs : Array Value} {n : Nat} (h : w.heap.size = n) : Blk (w.alloc (.cells cs t)) n t cs := h ▸ Blk.fresh w t cs
def cutX (X : Nat → Int) (k : Nat) : Nat → Int := fun i => if i < k then X i else 0
theorem labC_set (Y : Nat → Int) (k : Nat) (v : Int) (hk : k < 13) : (labC Y).setIfInBounds k (.int .i64 v) = labC (fun i => if i = k then v else Y i) := by
  match k, hk with
  | 0, _ => rfl
  | 1, _ => rfl
  | 2, _ => rfl
  | 3, _ => rfl
  | 4, _ => rfl
  | 5, _ => rfl
  | 6, _ => rfl
  | 7, _ => rfl
  | 8, _ => rfl
  | 9, _ => rfl
  | 10, _ => rfl
  | 11, _ => rfl
  | 12, _ => rfl
theorem cutX_next (X : Nat → Int) (k : Nat) : (fun i => if i = k then X k else cutX X k i) = cutX X (k + 1) := by
  funext i
  unfold cutX
  by_cases hi : i = k
  · subst hi; rw [if_pos rfl, if_pos (by omega)]
  · rw [if_neg hi]
    by_cases h : i < k
    · rw [if_pos h, if_pos (by omega)]
    · rw [if_neg h, if_neg (by omega)]
theorem labC_cut (X : Nat → Int) (k : Nat) (hk : k < 13) : (labC (cutX X k)).setIfInBounds k (.int .i64 (X k)) = labC (cutX X (k + 1)) := by
  rw [labC_set _ k _ hk, cutX_next]
abbrev sumC (X : Nat → Int) : Array Value := #[.int .i64 (X 0), .int .i64 (X 1), .int .i64 (X 2), .int .i64 (X 3)]
theorem sumC_cut (X : Nat → Int) (k : Nat) (hk : k < 4) : (sumC (cutX X k)).setIfInBounds k (.int .i64 (X k)) = sumC (cutX X (k + 1)) := by
  rw [← cutX_next X k]
  match k, hk with
  | 0, _ => rfl
  | 1, _ => rfl
  | 2, _ => rfl
  | 3, _ => rfl
abbrev zero13 : Array Value := #[.int .i64 0, .int .i64 0, .int .i64 0, .int .i64 0, .int .i64 0, .int .i64 0, .int .i64 0, .int .i64 0, .int .i64 0, .int .i64 0, .int .i64 0, .int .i64 0, .int .i64 0]
abbrev zero4 : Array Value := #[.int .i64 0, .int .i64 0, .int .i64 0, .int .i64 0]
theorem cells13 {w : World} {g : Nat} {t : TypeId} {X : Nat → Int} (h : Blk w g t (labC X)) : w.cell? ⟨g, 0, none⟩ = some (.int .i64 (X 0)) ∧ w.cell? ⟨g, 1, none⟩ = some (.int .i64 (X 1)) ∧ w.cell? ⟨g, 2, none⟩ = some (.int .i64 (X 2)) ∧ w.cell? ⟨g, 3, none⟩ = some (.int .i64 (X 3)) ∧ w.cell? ⟨g, 4, none⟩ = some (.int .i64 (X 4)) ∧ w.cell? ⟨g, 5, none⟩ = some (.int .i64 (X 5)) ∧ w.cell? ⟨g, 6, none⟩ = some (.int .i64 (X 6)) ∧ w.cell? ⟨g, 7, none⟩ = some (.int .i64 (X 7)) ∧ w.cell? ⟨g, 8, none⟩ = some (.int .i64 (X 8)) ∧ w.cell? ⟨g, 9, none⟩ = some (.int .i64 (X 9)) ∧ w.cell? ⟨g, 10, none⟩ = some (.int .i64 (X 10)) ∧ w.cell? ⟨g, 11, none⟩ = some (.int .i64 (X 11)) ∧ w.cell? ⟨g, 12, none⟩ = some (.int .i64 (X 12)) :=
  ⟨h.cell 0, h.cell 1, h.cell 2, h.cell 3, h.cell 4, h.cell 5, h.cell 6, h.cell 7, h.cell 8, h.cell 9, h.cell 10, h.cell 11, h.cell 12⟩
theorem labC_one (X : Nat → Int) : (labC X).all (·.oneCell') = true := by simp [Value.oneCell']
theorem zero13_one : zero13.all (·.oneCell') = true := by simp [Value.oneCell']
theorem labC13 (X : Nat → Int) : labC (cutX X 13) = labC X := by simp [cutX]
theorem zero13_eq : zero13 = labC (fun _ => 0) := rfl
theorem Decode_len (n c : Nat) (A : Option Addr) (w : World) (hm : n ≤ maxLen) (hn : n ≠ 128) :
    Calls Try.prog 31 #[.slice A n c] w fun e w' => e = .returned (.tuple #[.agg zero13, .int .i64 1]) ∧ New w w' := by
  unfold maxLen at hm
  have hne : ((n : Int) != 128) = true := by simp; omega
  go_enter Try.func31, Try.ntmps31
  go_wp2
  exact bodyPost_ret (v := .tuple #[.agg zero13, .int .i64 1]) (by simp [results, Try.results31, go_sem]) rfl ⟨rfl, (New.refl _).alloc _⟩
set_option maxRecDepth 100000 in
set_option maxHeartbeats 1000000 in
theorem Decode_ok (c : Nat) (A : Option Addr) (B : Nat → Nat) (w : World) (hr : RdB w A 128 B) (hc : 128 ≤ c) (hcm : c ≤ maxLen) :
    Calls Try.prog 31 #[.slice A 128 c] w fun e w' => e = .returned (.tuple #[.agg (labC (decX 128 B)), .int .i64 (decCode 128 B)]) ∧ New w w' := by
  unfold maxLen at hcm
  obtain ⟨b, off, rfl, hb, hcs⟩ := hr.2.2 (by omega)
  obtain ⟨cd, hcd⟩ : ∃ cd, Hid (cd = decCode 128 B) := ⟨_, (rfl : _ = _)⟩
  obtain ⟨R, hR⟩ : ∃ R, Hid (R = labC (decX 128 B)) := ⟨_, (rfl : _ = _)⟩
  rw [← hcd.out, ← hR.out]
  obtain ⟨X, hX⟩ : ∃ X, Hid (X = numX B) := ⟨_, (rfl : _ = _)⟩
  obtain ⟨Se, hSe⟩ : ∃ Se, Hid (Se = seB B) := ⟨_, (rfl : _ = _)⟩
  have hr0 := Lib.hid hr
  have hw0 : Hid (Blk ((((w.alloc (.cells zero13 41)).alloc (.cells zero13 41)).alloc (.cells zero4 37)).alloc (.cells #[.slice (some ⟨b, off, none⟩) 128 c] 78)) w.heap.size 41 zero13) :=
    (((Blk.fresh w _ _).alloc _).alloc _).alloc _
  have hw1 : Hid (Blk ((((w.alloc (.cells zero13 41)).alloc (.cells zero13 41)).alloc (.cells zero4 37)).alloc (.cells #[.slice (some ⟨b, off, none⟩) 128 c] 78)) (w.heap.size + 1) 41 (labC (cutX X 0))) := ((blk_at (cs := zero13) (by simp)).alloc _).alloc _
  have hw2 : Hid (Blk ((((w.alloc (.cells zero13 41)).alloc (.cells zero13 41)).alloc (.cells zero4 37)).alloc (.cells #[.slice (some ⟨b, off, none⟩) 128 c] 78)) (w.heap.size + 2) 37 (sumC (cutX Se 0))) := (blk_at (cs := zero4) (by simp)).alloc _
  have hw3 : Hid (Blk ((((w.alloc (.cells zero13 41)).alloc (.cells zero13 41)).alloc (.cells zero4 37)).alloc (.cells #[.slice (some ⟨b, off, none⟩) 128 c] 78)) (w.heap.size + 3) 78 #[.slice (some ⟨b, off, none⟩) 128 c]) := blk_at (by simp)
  have hN0 := Lib.hid (((((New.refl w).alloc (.cells zero13 41)).alloc (.cells zero13 41)).alloc (.cells zero4 37)).alloc (.cells #[.slice (some ⟨b, off, none⟩) 128 c] 78))
  clear hr hcs
  go_enter Try.func31, Try.ntmps31
  go_wp2_with fail
  refine (small_any _ _).mono ?_
  rintro e w1 ⟨rfl, hn1⟩
  have hx0 := hw0.out.new hn1
  have hx1 := hw1.out.new hn1
  have hx2 := hw2.out.new hn1
  have hx3 := hw3.out.new hn1
  have hNx := hN0.out.next hn1
  clear hn1
  have hat := Lib.hid (nine_at (w.heap.size + 1))
  go_wp2
  go_loopw [23] (fun k wr => ∃ (q : Nat) (A' : Option Addr) (c' : Nat), k = .int .i64 q ∧ q ≤ 9 ∧ Blk wr w.heap.size 41 zero13 ∧ Blk wr (w.heap.size + 1) 41 (labC (cutX X q)) ∧ Blk wr (w.heap.size + 2) 37 (sumC (cutX Se 0)) ∧ Blk wr (w.heap.size + 3) 78 #[.slice A' (128 - 4 * q) c'] ∧
      Hid (RdB w A' (128 - 4 * q) (fun i => B (4 * q + i))) ∧ 128 - 4 * q ≤ c' ∧ New w wr) (fun k _ => 9 - (intOf k).toNat)
  case atStart => exact ⟨0, _, _, rfl, by omega, hx0, hx1, hx2, hx3, by simpa using hr0, hc, hNx⟩
  case round =>
    obtain ⟨q, A', c', rfl, hq, hy0, hy1, hy2, hy3, hrd, hcc, hny⟩ := hrel
    by_cases hlt : q < 9
    · have hix := hat.out q hlt
      have hqi : (q : Int) < 9 := by omega
      have hz0 := Lib.hid hy0
      have hz1 := Lib.hid hy1
      have hz2 := Lib.hid hy2
      have hz3 := Lib.hid hy3
      have hnz := Lib.hid hny
      clear hy0 hy1 hy2 hy3 hny
      go_wp2_with fail
      refine (number_any (w.heap.size + 3) 4 (128 - 4 * q) c' A' _ _ hz3.out (hrd.out.new hnz.out) (by omega) (by omega) (by omega) hcc).mono ?_
      have hv : Hid (wrap64 (numN (fun i => B (4 * q + i)) 4 : Nat) = X q) := by
        rw [hX.out]
        unfold numX
        rw [if_pos hlt]
        have : numN (fun i => B (4 * q + i)) 4 < 4294967296 := numT_lt (B := fun i => B (4 * q + i)) (s := 4) (fun i hi => hrd.out.2.1 i (by omega)) 4 (Nat.le_refl _)
        exact IntWalk.wrap64_in _ (by omega)
      rw [hv.out]
      rintro e w2 ⟨rfl, ⟨A2, c2, hb2, hA2, hc2⟩, hg2⟩
      have hz0 := hz0.out.grown hg2 (by simp)
      have hz1 := hz1.out.grown hg2 (by simp)
      have hz2 := hz2.out.grown hg2 (by simp)
      have hnz := hnz.out.grown1 hg2 (by omega)
      have hcl := hz1.cell q
      rw [labC_at _ q (by omega)] at hcl
      have hfr := hz1.frozen q
      have hy0 := Lib.hid hz0
      have hy1 := Lib.hid hz1
      have hy2 := Lib.hid hz2
      have hy3 := Lib.hid hb2
      have hny := Lib.hid hnz
      have hA3 := Lib.hid hA2
      clear hz0 hz1 hz2 hnz hA2 hg2 hb2
      go_wp2
      go_roundw
      case rel =>
        have hput := hy1.out.put q (.int .i64 (X q))
        rw [labC_cut X q (by omega)] at hput
        have hrd2 := hA3.out w hrd.out
        refine ⟨q + 1, A2, c2, by go_num, by omega, hy0.out.far (by simp) _, hput, hy2.out.far (by simp) _, ?_, ?_, by omega, hny.out.set (by simp) _⟩
        · have := hy3.out.far (p := ⟨w.heap.size + 1, q, none⟩) (by simp) (.int .i64 (X q))
          rw [show 128 - 4 * (q + 1) = 128 - 4 * q - 4 by omega]
          exact this
        · have e : (fun i => B (4 * (q + 1) + i)) = fun i => B (4 * q + (4 + i)) := funext fun i => congrArg B (by omega)
          show RdB w A2 (128 - 4 * (q + 1)) fun i => B (4 * (q + 1) + i)
          rw [show 128 - 4 * (q + 1) = 128 - 4 * q - 4 by omega, e]
          exact hrd2
      case measure => simp [intOf]; omega
    · have hq9 : q = 9 := by omega
      subst hq9
      have hz0 := Lib.hid hy0
      have hz1 := Lib.hid hy1
      have hz2 := Lib.hid hy2
      have hz3 := Lib.hid hy3
      have hnz := Lib.hid hny
      clear hy0 hy1 hy2 hy3 hny hat
      go_wp2_with fail
      refine (sums9_any _ _).mono ?_
      rintro e w2 ⟨rfl, hn2⟩
      have hx0 := hz0.out.new hn2
      have hx1 := hz1.out.new hn2
      have hx2 := hz2.out.new hn2
      have hx3 := hz3.out.new hn2
      have hNx := hnz.out.next hn2
      clear hn2
      have hat := Lib.hid (quad_at (w.heap.size + 1) 9)
      have hrd36 : Hid (RdB w A' (92 - 8 * 0) (fun i => B (36 + 8 * 0 + i))) := hrd.out
      go_wp2
      go_loopw [33] (fun k wr => ∃ (q : Nat) (A' : Option Addr) (c' : Nat), k = .int .i64 q ∧ q ≤ 4 ∧ Blk wr w.heap.size 41 zero13 ∧ Blk wr (w.heap.size + 1) 41 (labC (cutX X (9 + q))) ∧ Blk wr (w.heap.size + 2) 37 (sumC (cutX Se 0)) ∧ Blk wr (w.heap.size + 3) 78 #[.slice A' (92 - 8 * q) c'] ∧
          Hid (RdB w A' (92 - 8 * q) (fun i => B (36 + 8 * q + i))) ∧ 92 - 8 * q ≤ c' ∧ New w wr) (fun k _ => 4 - (intOf k).toNat)
      case atStart => exact ⟨0, _, _, rfl, by omega, hx0, hx1, hx2, hx3, hrd36, hcc, hNx⟩
      case round =>
        obtain ⟨q, A', c', rfl, hq, hy0, hy1, hy2, hy3, hrd, hcc, hny⟩ := hrel
        by_cases hlt : q < 4
        · have hix := hat.out q hlt
          have hqi : (q : Int) < 4 := by omega
          have hz0 := Lib.hid hy0
          have hz1 := Lib.hid hy1
          have hz2 := Lib.hid hy2
          have hz3 := Lib.hid hy3
          have hnz := Lib.hid hny
          clear hy0 hy1 hy2 hy3 hny
          go_wp2_with fail
          refine (number_any (w.heap.size + 3) 8 (92 - 8 * q) c' A' _ _ hz3.out (hrd.out.new hnz.out) (by omega) (by omega) (by omega) hcc).mono ?_
          have hv : Hid (wrap64 (numN (fun i => B (36 + 8 * q + i)) 8 : Nat) = X (9 + q)) := by
            rw [hX.out]
            unfold numX
            rw [if_neg (by omega), show 9 + q - 9 = q by omega]
            exact (rfl : _ = _)
          rw [hv.out]
          rintro e w2 ⟨rfl, ⟨A2, c2, hb2, hA2, hc2⟩, hg2⟩
          have hz0 := hz0.out.grown hg2 (by simp)
          have hz1 := hz1.out.grown hg2 (by simp)
          have hz2 := hz2.out.grown hg2 (by simp)
          have hnz := hnz.out.grown1 hg2 (by omega)
          have hcl := hz1.cell (9 + q)
          rw [labC_at _ (9 + q) (by omega)] at hcl
          have hfr := hz1.frozen (9 + q)
          have hy0 := Lib.hid hz0
          have hy1 := Lib.hid hz1
          have hy2 := Lib.hid hz2
          have hy3 := Lib.hid hb2
          have hny := Lib.hid hnz
          have hA3 := Lib.hid hA2
          clear hz0 hz1 hz2 hnz hA2 hg2 hb2
          go_wp2
          go_roundw
          case rel =>
            have hput := hy1.out.put (9 + q) (.int .i64 (X (9 + q)))
            rw [labC_cut X (9 + q) (by omega)] at hput
            have hrd2 := hA3.out w hrd.out
            refine ⟨q + 1, A2, c2, by go_num, by omega, hy0.out.far (by simp) _, hput, hy2.out.far (by simp) _, ?_, ?_, by omega, hny.out.set (by simp) _⟩
            · have := hy3.out.far (p := ⟨w.heap.size + 1, 9 + q, none⟩) (by simp) (.int .i64 (X (9 + q)))
              rw [show 92 - 8 * (q + 1) = 92 - 8 * q - 8 by omega]
              exact this
            · have e : (fun i => B (36 + 8 * (q + 1) + i)) = fun i => B (36 + 8 * q + (8 + i)) := funext fun i => congrArg B (by omega)
              show RdB w A2 (92 - 8 * (q + 1)) fun i => B (36 + 8 * (q + 1) + i)
              rw [show 92 - 8 * (q + 1) = 92 - 8 * q - 8 by omega, e]
              exact hrd2
          case measure => simp [intOf]; omega
        · have hq4 : q = 4 := by omega
          subst hq4
          have hf3 := hy3.frozen 0
          have hc3 := hy3.cell 0
          simp at hc3
          have hz0 := Lib.hid hy0
          have hz1 := Lib.hid hy1
          have hz2 := Lib.hid hy2
          have hz3 := Lib.hid hy3
          have hnz := Lib.hid hny
          have hne96 : ¬ c = 96 := by omega
          clear hy0 hy1 hy2 hy3 hny hat
          go_wp2_with fail
          refine (sums0_any _ _).mono ?_
          rintro e w2 ⟨rfl, hn2⟩
          have hz0 := hz0.out.far (p := ⟨w.heap.size + 3, 0, none⟩) (by simp) (.slice (some ⟨b, off + 96, none⟩) 32 (c - 96))
          have hz1 := hz1.out.far (p := ⟨w.heap.size + 3, 0, none⟩) (by simp) (.slice (some ⟨b, off + 96, none⟩) 32 (c - 96))
          have hz2 := hz2.out.far (p := ⟨w.heap.size + 3, 0, none⟩) (by simp) (.slice (some ⟨b, off + 96, none⟩) 32 (c - 96))
          have hz3 := hz3.out.put 0 (.slice (some ⟨b, off + 96, none⟩) 32 (c - 96))
          simp only [List.setIfInBounds_toArray, List.set_cons_zero] at hz3
          have hnz := hnz.out.set (p := ⟨w.heap.size + 3, 0, none⟩) (by simp) (.slice (some ⟨b, off + 96, none⟩) 32 (c - 96))
          have hx0 := hz0.new hn2
          have hx1 := hz1.new hn2
          have hx2 := hz2.new hn2
          have hx3 := hz3.new hn2
          have hNx := hnz.next hn2
          clear hn2 hz0 hz1 hz2 hz3 hnz hc3 hf3
          have hat := Lib.hid (quad_at (w.heap.size + 1 + 1) 0)
          have hrd96 : Hid (RdB w (some ⟨b, off + 96, none⟩) (32 - 8 * 0) (fun i => B (96 + 8 * 0 + i))) := by
            obtain ⟨b', off', hA, hsub⟩ := rdB_sub hr0.out (lo := 96) (m := 32) (by omega) (by omega)
            injection hA with hA
            injection hA with h1 h2 _
            subst h1 h2
            exact hsub
          have hcc : 32 - 8 * 0 ≤ c - 96 := by omega
          go_wp2
          go_loopw [43] (fun k wr => ∃ (q : Nat) (A' : Option Addr) (c' : Nat), k = .int .i64 q ∧ q ≤ 4 ∧ Blk wr w.heap.size 41 zero13 ∧ Blk wr (w.heap.size + 1) 41 (labC (cutX X 13)) ∧ Blk wr (w.heap.size + 2) 37 (sumC (cutX Se q)) ∧ Blk wr (w.heap.size + 3) 78 #[.slice A' (32 - 8 * q) c'] ∧
              Hid (RdB w A' (32 - 8 * q) (fun i => B (96 + 8 * q + i))) ∧ 32 - 8 * q ≤ c' ∧ New w wr) (fun k _ => 4 - (intOf k).toNat)
          case atStart => exact ⟨0, _, _, rfl, by omega, hx0, hx1, hx2, hx3, hrd96, hcc, hNx⟩
          case round =>
            obtain ⟨q, A', c', rfl, hq, hy0, hy1, hy2, hy3, hrd, hcc, hny⟩ := hrel
            by_cases hlt : q < 4
            · have hix := hat.out q hlt
              rw [Nat.zero_add] at hix
              have hqi : (q : Int) < 4 := by omega
              have hz0 := Lib.hid hy0
              have hz1 := Lib.hid hy1
              have hz2 := Lib.hid hy2
              have hz3 := Lib.hid hy3
              have hnz := Lib.hid hny
              clear hy0 hy1 hy2 hy3 hny
              go_wp2_with fail
              refine (number_any (w.heap.size + 3) 8 (32 - 8 * q) c' A' _ _ hz3.out (hrd.out.new hnz.out) (by omega) (by omega) (by omega) hcc).mono ?_
              have hv : Hid (wrap64 (numN (fun i => B (96 + 8 * q + i)) 8 : Nat) = Se q) := by
                rw [hSe.out]
                exact (rfl : _ = _)
              rw [hv.out]
              rintro e w2 ⟨rfl, ⟨A2, c2, hb2, hA2, hc2⟩, hg2⟩
              have hz0 := hz0.out.grown hg2 (by simp)
              have hz1 := hz1.out.grown hg2 (by simp)
              have hz2 := hz2.out.grown hg2 (by simp)
              have hnz := hnz.out.grown1 hg2 (by omega)
              have hcl : w2.cell? ⟨w.heap.size + 1 + 1, q, none⟩ = some (.int .i64 (cutX Se q q)) := by
                rw [hz2.cell q]
                match q, hlt with
                | 0, _ => rfl
                | 1, _ => rfl
                | 2, _ => rfl
                | 3, _ => rfl
              have hfr : w2.frozen? ⟨w.heap.size + 1 + 1, q, none⟩ = false := hz2.frozen q
              have hy0 := Lib.hid hz0
              have hy1 := Lib.hid hz1
              have hy2 := Lib.hid hz2
              have hy3 := Lib.hid hb2
              have hny := Lib.hid hnz
              have hA3 := Lib.hid hA2
              clear hz0 hz1 hz2 hnz hA2 hg2 hb2
              go_wp2
              go_roundw
              case rel =>
                have hput := hy2.out.put q (.int .i64 (Se q))
                rw [sumC_cut Se q (by omega)] at hput
                have hrd2 := hA3.out w hrd.out
                refine ⟨q + 1, A2, c2, by go_num, by omega, hy0.out.far (by simp; try omega) _, hy1.out.far (by simp; try omega) _, hput, ?_, ?_, by omega, hny.out.set (by simp; omega) _⟩
                · have := hy3.out.far (p := ⟨w.heap.size + 1 + 1, q, none⟩) (by simp) (.int .i64 (Se q))
                  rw [show 32 - 8 * (q + 1) = 32 - 8 * q - 8 by omega]
                  exact this
                · have e : (fun i => B (96 + 8 * (q + 1) + i)) = fun i => B (96 + 8 * q + (8 + i)) := funext fun i => congrArg B (by omega)
                  show RdB w A2 (32 - 8 * (q + 1)) fun i => B (96 + 8 * (q + 1) + i)
                  rw [show 32 - 8 * (q + 1) = 32 - 8 * q - 8 by omega, e]
                  exact hrd2
              case measure => simp [intOf]; omega
            · have hq4 : q = 4 := by omega
              subst hq4
              have hz0 := Lib.hid hy0
              have hz1 := Lib.hid hy1
              have hz2 := Lib.hid hy2
              have hnz := Lib.hid hny
              clear hy0 hy1 hy2 hy3 hny hat
              go_wp2_with fail
              refine (Of_ok (some ⟨b, off, none⟩) 96 c B _ (rdB_head (hr0.out.new hnz.out) (by omega)) (by omega) (by omega)).mono ?_
              obtain ⟨S, hS⟩ : ∃ S, Hid (S = sumS B) := ⟨_, (rfl : _ = _)⟩
              rw [show sums B (96 / 4) (0, 0, 0, 0) = S from hS.out.symm]
              rintro e w2 ⟨rfl, hn2⟩
              have hx0 := Lib.hid (hz0.out.new hn2)
              have hx1 := Lib.hid (hz1.out.new hn2)
              have hx2 := hz2.out.new hn2
              have hNx := Lib.hid (hnz.out.next hn2)
              have d0 : w2.cell? ⟨w.heap.size + 1 + 1, 0, none⟩ = some (.int .i64 (Se 0)) := hx2.cell 0
              have d1 : w2.cell? ⟨w.heap.size + 1 + 1, 1, none⟩ = some (.int .i64 (Se 1)) := hx2.cell 1
              have d2 : w2.cell? ⟨w.heap.size + 1 + 1, 2, none⟩ = some (.int .i64 (Se 2)) := hx2.cell 2
              have d3 : w2.cell? ⟨w.heap.size + 1 + 1, 3, none⟩ = some (.int .i64 (Se 3)) := hx2.cell 3
              have hs2 : w.heap.size + 1 + 1 < w2.heap.size := hx2.lt
              clear hn2 hx2 hz0 hz1 hz2 hnz
              obtain ⟨s0, s1, s2, s3⟩ := S
              by_cases hq : s0 = Se 0 ∧ s1 = Se 1 ∧ s2 = Se 2 ∧ s3 = Se 3
              · obtain ⟨rfl, rfl, rfl, rfl⟩ := hq
                have hsl : Hid (sealP B) := fun j hj => by
                  rw [← hS.out, ← hSe.out]
                  match j, hj with
                  | 0, _ => rfl
                  | 1, _ => rfl
                  | 2, _ => rfl
                  | 3, _ => rfl
                have hs1 : w.heap.size + 1 < w2.heap.size := by omega
                have hs0 : w.heap.size < w2.heap.size := by omega
                have hx3 : Hid (Blk w2 (w.heap.size + 1) 41 (labC X)) := by rw [← labC13 X]; exact hx1.out
                obtain ⟨c0, c1, c2, c3, c4, c5, c6, c7, c8, c9, c10, c11, c12⟩ := cells13 hx3.out
                have hXb : Hid (∀ i, i < 13 → i64P (X i)) := fun i hi => by rw [hX.out]; exact numX_bd B hr0.out.2.1 i hi
                have hfull := Lib.hid (full_iff B hr0.out.2.1 hsl.out)
                by_cases hok : okX X
                · have hok0 := Lib.hid hok
                  clear hok
                  go_wp2_with fail
                  refine (Encode_ok X _ hok0.out hXb.out).mono ?_
                  rintro e w3 ⟨g3, rfl, hr3, hn3⟩
                  have hr4 := Lib.hid hr3
                  have hx4 := Lib.hid ((hx0.out.alloc _).new hn3)
                  have hx5 := Lib.hid ((hx3.out.alloc _).new hn3)
                  have hN3 := Lib.hid ((hNx.out.alloc _).next hn3)
                  clear hn3 hr3 c0 c1 c2 c3 c4 c5 c6 c7 c8 c9 c10 c11 c12
                  go_wp2_with fail
                  refine (Equal_any _ _ 128 128 c _ _ _ hr4.out (hr0.out.new hN3.out)).mono ?_
                  cases he : eqB (labF X (sealX X)) B 128 with
                  | true =>
                    have hgood : Hid (decCode 128 B = 0) := dec_good hsl.out ⟨by rw [← hX.out]; exact hok0.out, hfull.out.1 fun i hi => by
                      have := eqB_out he i hi
                      rw [hX.out] at this
                      exact this⟩
                    have hcd0 : cd = 0 := hcd.out.trans hgood.out
                    have hRX : Hid (R = labC X) := by rw [hR.out, decX_good hgood.out, hX.out]; exact (rfl : _ = _)
                    subst hcd0
                    rintro e w4 ⟨rfl, hn4⟩
                    have hx6 := hx4.out.new hn4
                    have hx7 := hx5.out.new hn4
                    have hN4 := hN3.out.next hn4
                    have hs5 : w.heap.size + 1 < w4.heap.size := hx7.lt
                    obtain ⟨c0, c1, c2, c3, c4, c5, c6, c7, c8, c9, c10, c11, c12⟩ := cells13 hx7
                    have hx8 := Lib.hid (hx6.row (labC X))
                    have hN8 := Lib.hid (hN4.row (g := w.heap.size) (Nat.le_refl w.heap.size) (labC X))
                    have hx6' := Lib.hid hx6
                    clear hn4 hx6 hx7 hN4
                    go_wp2_with (refine wpList_store_row rfl 41 _ _ rfl w.heap.size (labC X) rfl rfl 41 zero13 hx6'.out (by kernel_rfl) rfl (labC_one X) ?_)
                    exact bodyPost_ret (v := .tuple #[.agg (labC X), .int .i64 0]) (results_cell_slot Try.results31 _ _ w.heap.size 41 (labC X) _ rfl hx8.out Try.underlying41 rfl (by kernel_rfl)) rfl ⟨by rw [hRX.out], hN8.out⟩
                  | false =>
                    have hbad : Hid (decCode 128 B = 4) := dec_bad hsl.out fun h => by
                      have h2 : eqB (labF X (sealX X)) B 128 = true := eqB_true (by rw [hX.out]; exact hfull.out.2 h.2)
                      rw [he] at h2
                      cases h2
                    have hcd4 : cd = 4 := hcd.out.trans hbad.out
                    have hRX : Hid (R = zero13) := by rw [hR.out, decX_bad (by rw [hbad.out]; decide)]; exact (rfl : _ = _)
                    subst hcd4
                    rintro e w4 ⟨rfl, hn4⟩
                    have hx6 := hx4.out.new hn4
                    have hN4 := hN3.out.next hn4
                    have hx8 := Lib.hid (hx6.row (zero13))
                    have hN8 := Lib.hid (hN4.row (g := w.heap.size) (Nat.le_refl w.heap.size) (zero13))
                    have hx6' := Lib.hid hx6
                    clear hn4 hx6 hN4
                    go_wp2_with (refine wpList_store_row rfl 41 _ _ rfl w.heap.size (zero13) rfl rfl 41 zero13 hx6'.out (by kernel_rfl) rfl zero13_one ?_)
                    exact bodyPost_ret (v := .tuple #[.agg (zero13), .int .i64 4]) (results_cell_slot Try.results31 _ _ w.heap.size 41 (zero13) _ rfl hx8.out Try.underlying41 rfl (by kernel_rfl)) rfl ⟨by rw [hRX.out], hN8.out⟩
                · have hok0 := Lib.hid hok
                  have hbad : Hid (decCode 128 B = 4) := dec_bad hsl.out fun h => hok0.out (by rw [hX.out]; exact h.1)
                  have hcd4 : cd = 4 := hcd.out.trans hbad.out
                  have hRX : Hid (R = zero13) := by rw [hR.out, decX_bad (by rw [hbad.out]; decide)]; exact (rfl : _ = _)
                  subst hcd4
                  clear hok
                  go_wp2_with fail
                  refine (Encode_bad X _ hok0.out).mono ?_
                  rintro e w3 ⟨rfl, hn3⟩
                  have hx6 := ((hx0.out.alloc _).new hn3)
                  have hN4 := ((hNx.out.alloc _).next hn3)
                  have hx8 := Lib.hid (hx6.row (zero13))
                  have hN8 := Lib.hid (hN4.row (g := w.heap.size) (Nat.le_refl w.heap.size) (zero13))
                  have hx6' := Lib.hid hx6
                  clear hn3 hx6 hN4 c0 c1 c2 c3 c4 c5 c6 c7 c8 c9 c10 c11 c12
                  go_wp2_with (refine wpList_store_row rfl 41 _ _ rfl w.heap.size (zero13) rfl rfl 41 zero13 hx6'.out (by kernel_rfl) rfl zero13_one ?_)
                  exact bodyPost_ret (v := .tuple #[.agg (zero13), .int .i64 4]) (results_cell_slot Try.results31 _ _ w.heap.size 41 (zero13) _ rfl hx8.out Try.underlying41 rfl (by kernel_rfl)) rfl ⟨by rw [hRX.out], hN8.out⟩
              · have hbad : Hid (decCode 128 B = 11) := dec_seal fun h => hq (by
                  have h0 := h 0 (by omega)
                  have h1 := h 1 (by omega)
                  have h2 := h 2 (by omega)
                  have h3 := h 3 (by omega)
                  rw [← hS.out, ← hSe.out] at h0 h1 h2 h3
                  exact ⟨h0, h1, h2, h3⟩)
                have hcd4 : cd = 11 := hcd.out.trans hbad.out
                have hRX : Hid (R = zero13) := by rw [hR.out, decX_bad (by rw [hbad.out]; decide)]; exact (rfl : _ = _)
                subst hcd4
                have hx6 := fun o => hx0.out.alloc o
                have hN6 := fun o => hNx.out.alloc o
                have hx7 := Lib.hid hx6
                have hN7 := Lib.hid hN6
                clear hx6 hN6
                go_wp2_with (refine wpList_store_row rfl 41 _ _ rfl w.heap.size zero13 rfl rfl 41 zero13 (hx7.out _) (by kernel_rfl) rfl zero13_one ?_)
                all_goals exact bodyPost_ret (v := .tuple #[.agg zero13, .int .i64 11]) (results_cell_slot Try.results31 _ _ w.heap.size 41 zero13 _ rfl ((hx7.out _).row zero13) Try.underlying41 rfl (by kernel_rfl)) rfl ⟨by rw [hRX.out], (hN7.out _).row (Nat.le_refl w.heap.size) zero13⟩
end Go.Proofs.Ythkgcbjfgglciaa.label
