/-
  Contract of par.Encode.
-/
import Derived.Test.YtjmjnodaohbpfaaParEnc
namespace Go.Proofs.Ytjmjnodaohbpfaa.par
open Go.ChangeShapes Go.WideShapes Go.ChangeAt Go.RowKit Go.Proofs.Ytjmjnodaohbpfaa.kit Go.Proofs.Ytjmjnodaohbpfaa.gf Go.Deep
set_option linter.unusedVariables false
attribute [local irreducible] mul expT pw fcN enN

def peCode (n : Nat) (L : Nat → Nat) (p : Int) : Int := if mayC n L = true then (if 1 ≤ p ∧ p ≤ 3 then 0 else 2) else 4
def peLen (n : Nat) (L : Nat → Nat) (p : Int) : Nat := if peCode n L p = 0 then p.toNat else 0
theorem mayC_out {n : Nat} {L : Nat → Nat} (h : mayC n L = true) : 1 ≤ n ∧ n ≤ 12 ∧ ∀ i, i < n → L i = L 0 ∧ L i ≤ 4096 := by
  unfold mayC at h
  rw [Bool.and_eq_true, decide_eq_true_eq] at h
  exact ⟨h.1.1, h.1.2, evB_out h.2⟩
theorem info32 : (Try.prog.info? 32).map (fun i => (i.zero, i.size, i.bytes)) = some (some (.slice none 0 0), 1, 24) := by kernel_rfl
theorem some_any (p : Int) (w : World) : Calls Try.prog 23 #[.int .i64 p] w fun e w' => e = .returned (.bool (decide (1 ≤ p ∧ p ≤ 3))) ∧ w = w' := by
  by_cases h : 1 ≤ p ∧ p ≤ 3
  · have hd : decide (1 ≤ p ∧ p ≤ 3) = true := decide_eq_true h
    rw [hd]
    obtain ⟨h1, h2⟩ := h
    clear hd
    go_enter Try.func23, Try.ntmps23
    go_wp2
    all_goals go_ret
    all_goals exact ⟨by simp; try omega, rfl⟩
  · have hd : decide (1 ≤ p ∧ p ≤ 3) = false := decide_eq_false h
    rw [hd]
    clear hd
    go_enter Try.func23, Try.ntmps23
    go_wp2
    all_goals go_ret
    all_goals exact ⟨by simp; try omega, rfl⟩
theorem Encode_any (A : Option Addr) (n c : Nat) (p : Int) (R : Nat → Option Addr) (L C : Nat → Nat) (M : Nat → Nat → Int) (w : World) (hM : RdM .u8 w A n R L C M) (hb : ∀ i, i < n → ∀ k, k < L i → 0 ≤ M i k ∧ M i k ≤ 255) :
    Calls Try.prog 10 #[.slice A n c, .int .i64 p] w fun e w' => ∃ v, e = .returned (.tuple #[v, .int .i64 (peCode n L p)]) ∧
      (∃ B d R1 C1, v = .slice B (peLen n L p) d ∧ RdM .u8 w' B (peLen n L p) R1 (fun _ => L 0) C1 (fun j k => (enN j M n k : Nat))) ∧ New w w' := by
  obtain ⟨cd, hcd⟩ : ∃ cd, Hid (cd = peCode n L p) := ⟨_, (rfl : _ = _)⟩
  obtain ⟨ln, hln⟩ : ∃ ln, Hid (ln = peLen n L p) := ⟨_, (rfl : _ = _)⟩
  rw [← hcd.out, ← hln.out]
  have hM0 := Lib.hid hM
  have hb0 := Lib.hid hb
  clear hM hb
  cases hm : mayC n L with
  | false =>
    have hc : cd = 4 := by rw [hcd.out]; unfold peCode; simp [hm]
    have hl : ln = 0 := by rw [hln.out]; unfold peLen; rw [← hcd.out]; simp [hc]
    subst hc hl
    go_enter Try.func10, Try.ntmps10
    go_wp2_with fail
    refine (May_any _ _ _ _ _ _ _ _ hM0.out).mono ?_
    rw [hm]
    rintro e w1 ⟨rfl, hn⟩
    go_wp2
    go_ret2
    exact ⟨_, rfl, ⟨none, 0, fun _ => none, fun _ => 0, rfl, nil_rdM _ _ _ _ _ _⟩, hn⟩
  | true =>
    have hm0 := Lib.hid hm
    obtain ⟨hn1, hn12, hev⟩ := mayC_out hm
    have hev0 := Lib.hid hev
    clear hm hev
    by_cases hp : 1 ≤ p ∧ p ≤ 3
    · have hc : cd = 0 := by rw [hcd.out]; unfold peCode; rw [if_pos hm0.out, if_pos hp]
      have hl : Hid (ln = p.toNat) := by rw [hln.out]; unfold peLen; rw [← hcd.out, hc, if_pos rfl]; exact (rfl : _ = _)
      obtain ⟨q, rfl, hq1, hq3⟩ : ∃ q : Nat, p = q ∧ 1 ≤ q ∧ q ≤ 3 := ⟨p.toNat, by omega, by omega, by omega⟩
      have hlq : ln = q := by rw [hl.out]; simp
      subst hc
      subst hlq
      have hd : Hid (decide ((1 : Int) ≤ (ln : Int) ∧ (ln : Int) ≤ 3) = true) := decide_eq_true hp
      obtain ⟨i0, hi0, hz0, hz1, hz2⟩ := info_parts info32
      obtain ⟨l, hl0⟩ : ∃ l, Hid (l = L 0) := ⟨_, (rfl : _ = _)⟩
      have hl4 : l ≤ 4096 := by have := (hev0.out 0 (by omega)).2; rw [← hl0.out] at this; exact this
      clear hp
      go_enter Try.func10, Try.ntmps10
      go_wp2_with fail
      refine (May_any _ _ _ _ _ _ _ _ hM0.out).mono ?_
      rw [hm0.out]
      rintro e w1 ⟨rfl, hn⟩
      have hN1 := Lib.hid hn
      clear hn
      go_wp2_with fail
      refine (some_any _ _).mono ?_
      rw [hd.out]
      rintro e w2 ⟨rfl, rfl⟩
      go_wp2
      go_loopw [15, 6] (fun k s wr => ∃ (j : Nat) (sv : Value) (G : Nat → Nat), sv = s ∧ k = .int .i64 j ∧ j ≤ ln ∧ wr.ownsRow w.heap.size 32 1 sv j (rowsL G l j) ∧ New w wr ∧ Hid (∀ i, i < j → wr.rowIs (G i) 5 l (byV (enN i M n)))) (fun k _ _ => ln - (intOf k).toNat)
      case atStart => exact ⟨0, _, fun _ => 0, rfl, rfl, by omega, World.ownsRow_nil _ _ _ _, hN1.out, fun i hi => absurd hi (Nat.not_lt_zero i)⟩
      case round =>
        obtain ⟨j, sv, G, rfl, rfl, hj, hown, hnw, hG⟩ := hrel
        by_cases hlt : j < ln
        · have hown1 := Lib.hid hown
          have hnw1 := Lib.hid hnw
          clear hown hnw
          go_wp2_with fail
          refine (encode_any A n c l j R L C M _ (hM0.out.new hnw1.out) hb0.out (fun i hi => by rw [(hev0.out i hi).1, hl0.out]) hn1 hn12 hl4 (by omega)).mono ?_
          rintro e w3 ⟨g3, rfl, hrow3, hn3, hg3⟩
          have hown3 := Lib.hid (own_new hown1.out hn3)
          have hG3 : Hid (∀ i, i < j → w3.rowIs (G i) 5 l (byV (enN i M n))) := fun i hi => row_new (hG.out i hi) hn3
          have hnw3 := Lib.hid (hnw1.out.next hn3)
          have hrow4 := Lib.hid hrow3
          have hnext := Lib.hid (rowsL_succ G l j g3)
          have hsz := hnw3.out.size
          clear hn3 hrow3 hg3
          go_wp2_with (at_builtin; refine wpList_append_own _ rfl _ _ 22 rfl w.heap.size 32 i0 _ 1 24 Try.underlying22 hi0 hz0 hz1 hz2 rfl (by decide) sv j (rowsL G l j) rfl (hown3.out.alloc _) ⟨w3.heap.size, 0, none⟩ 1 1 [.slice (some ⟨g3, 0, none⟩) l l] rfl rfl (World.news_of_block (cs := #[.slice (some ⟨g3, 0, none⟩) l l]) (t := 32) (fr := (0, 0)) (heap_alloc_new w3 _)) (by simp [Value.oneCell']) (by unfold maxLen; omega) (by omega) (by simp; omega) ?_; intro v5 w5 hown5 hgrow hnil)
          have hoa := Lib.hid (hown3.out.alloc (.cells #[.slice (some ⟨g3, 0, none⟩) l l] 32))
          have hN5 := Lib.hid (hnw3.out.append' hgrow fun g hg => (hown3.out.lt _ hg).1)
          have hG5 : Hid (∀ i, i < j + 1 → w5.rowIs ((fun i => if i = j then g3 else G i) i) 5 l (byV (enN i M n))) := fun i hi => by
            by_cases hij : i = j
            · subst hij
              simp only [if_pos]
              exact row_grown (hrow4.out.alloc _) hgrow (row_ne_own hoa.out (hrow4.out.alloc _) (by decide))
            · simp only [if_neg hij]
              have := hG3.out i (by omega)
              exact row_grown (this.alloc _) hgrow (row_ne_own hoa.out (this.alloc _) (by decide))
          rw [← hnext.out] at hown5
          have hown6 := Lib.hid hown5
          clear hown5 hgrow hnil
          go_wp2
          go_roundw
          case rel => exact ⟨j + 1, _, _, rfl, by go_num, by omega, hown6.out, hN5.out, hG5⟩
          case measure => simp [intOf]; omega
        · have hjl : j = ln := by omega
          subst hjl
          obtain ⟨B1, d1, rfl, hR⟩ := own_rdM (k := .u8) (f := fun i k => enN i M n k) hown hG.out (by unfold maxLen; omega)
          have hR1 := Lib.hid hR
          have hnw1 := Lib.hid hnw
          clear hown hnw hR
          go_wp2
          go_ret2
          exact ⟨_, rfl, ⟨B1, ⟨d1, rfl⟩, _, _, by rw [← hl0.out]; exact hR1.out⟩, hnw1.out⟩
    · have hc : cd = 2 := by rw [hcd.out]; unfold peCode; rw [if_pos hm0.out, if_neg hp]
      have hl : ln = 0 := by rw [hln.out]; unfold peLen; rw [← hcd.out]; simp [hc]
      subst hc hl
      have hd : Hid (decide (1 ≤ p ∧ p ≤ 3) = false) := decide_eq_false hp
      clear hp
      go_enter Try.func10, Try.ntmps10
      go_wp2_with fail
      refine (May_any _ _ _ _ _ _ _ _ hM0.out).mono ?_
      rw [hm0.out]
      rintro e w1 ⟨rfl, hn⟩
      go_wp2_with fail
      refine (some_any _ _).mono ?_
      rw [hd.out]
      rintro e w2 ⟨rfl, rfl⟩
      go_wp2
      go_ret2
      exact ⟨_, rfl, ⟨none, 0, fun _ => none, fun _ => 0, rfl, nil_rdM _ _ _ _ _ _⟩, hn⟩
end Go.Proofs.Ytjmjnodaohbpfaa.par
