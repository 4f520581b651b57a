/-
  Contracts: may columns be.
-/
import Derived.Test.YtjmjnodaohbpfaaProg
import Derived.Test.YtjmjnodaohbpfaaRows2
namespace Go.Proofs.Ytjmjnodaohbpfaa.par
open Go.ChangeShapes Go.WideShapes Go.ChangeAt Go.RowKit Go.Proofs.Ytjmjnodaohbpfaa.kit Go.Joins Go.Deep
set_option linter.unusedVariables false

set_option maxRecDepth 100000 in
theorem open_cols {H : Type} {enc : TypeId × Value → H} {W : World} {base : Nat} {v : Value} {d : DataW H} {p : List MemPlace} (ok : Value.okWide Try.prog W .any base 22 v)
    (h : DataW.Trod enc Try.prog W 0 (fun _ => true) true 22 v d p) :
    ∃ (A : Option Addr) (n c : Nat) (R : Nat → Option Addr) (L C : Nat → Nat) (M : Nat → Nat → Int), v = .slice A n c ∧ RdM .u8 W A n R L C M ∧ n ≤ c ∧ c ≤ maxLen ∧ ∀ i, i < n → ∀ j, j < L i → 0 ≤ M i j ∧ M i j ≤ 255 := by
  obtain ⟨A, n, c, rfl⟩ := okWide_slice Try.underlying22 ok
  obtain ⟨fuel, hf⟩ := h
  obtain ⟨A, n, c, R, L, C, M, hv, h1, h2, h3, h4⟩ := open_matI Try.underlying22 (by kernel_rfl) Try.underlying32 Try.underlying5 (by kernel_rfl) hf
  exact ⟨A, n, c, R, L, C, M, hv, h1, h2, h3, fun i hi j hj => bounds_u8 (h4 i hi j hj)⟩

def evP (L : Nat → Nat) (i : Nat) : Prop := L i = L 0 ∧ L i ≤ 4096
instance (L : Nat → Nat) (i : Nat) : Decidable (evP L i) := by unfold evP; infer_instance
def evB (n : Nat) (L : Nat → Nat) : Bool := (List.range n).all fun i => decide (evP L i)
theorem evB_true {n : Nat} {L : Nat → Nat} (h : ∀ j, j < n → evP L j) : evB n L = true := by simpa [evB] using h
theorem evB_bad {n j : Nat} {L : Nat → Nat} (hj : j < n) (h : ¬ evP L j) : evB n L = false := by
  cases hb : evB n L with
  | false => rfl
  | true => simp [evB] at hb; exact absurd (hb j hj) h
theorem evB_out {n : Nat} {L : Nat → Nat} (h : evB n L = true) : ∀ j, j < n → evP L j := by simpa [evB] using h
def mayC (n : Nat) (L : Nat → Nat) : Bool := decide (1 ≤ n ∧ n ≤ 12) && evB n L

theorem even1_any (r : Option Addr) (l c n cap b0 off b : Nat) (R0 : Option Addr) (l0 c0 : Nat) (w : World) (h1 : w.cell? ⟨b, 0, none⟩ = some (.slice (some ⟨b0, off, none⟩) n cap)) (h2 : w.cell? ⟨b0, off, none⟩ = some (.slice R0 l0 c0)) (hn : 0 < n) (hl : l ≤ maxLen) (hl0 : l0 ≤ maxLen) :
    Calls Try.prog 46 #[.slice r l c, .pointer (some ⟨b, 0, none⟩)] w fun e w' => e = .returned (.bool (! decide (l = l0 ∧ l ≤ 4096))) ∧ w = w' := by
  unfold maxLen at hl hl0
  have hn0 : (0 : Int) < n := by omega
  by_cases h : l = l0
  · subst h
    by_cases h4 : l ≤ 4096
    · have hd : decide (l = l ∧ l ≤ 4096) = true := decide_eq_true ⟨rfl, h4⟩
      rw [hd]
      have h5 : decide ((4096 : Int) < l) = false := by simp; omega
      clear hd
      go_enter Try.func46, Try.ntmps46
      go_wp2
      go_ret
      exact ⟨retb (by simp), rfl⟩
    · have hd : decide (l = l ∧ l ≤ 4096) = false := decide_eq_false fun hh => h4 hh.2
      rw [hd]
      have h5 : decide ((4096 : Int) < l) = true := by simp; omega
      clear hd
      go_enter Try.func46, Try.ntmps46
      go_wp2
      go_ret
      exact ⟨retb (by simp), rfl⟩
  · have hd : decide (l = l0 ∧ l ≤ 4096) = false := decide_eq_false fun hh => h hh.1
    have hne : ((l : Int) != (l0 : Int)) = true := by simp; omega
    rw [hd]
    clear hd
    go_enter Try.func46, Try.ntmps46
    go_wp2
    go_ret
    exact ⟨retb (by simp), rfl⟩
theorem IndexFunc_even (n c b : Nat) (A : Option Addr) (R : Nat → Option Addr) (L C : Nat → Nat) (M : Nat → Nat → Int) (w : World) (h : RdM .u8 w A n R L C M) (hb : w.cell? ⟨b, 0, none⟩ = some (.slice A n c)) :
    Calls Try.prog 60 #[.slice A n c, .func (.func 46) #[] #[.pointer (some ⟨b, 0, none⟩)]] w fun e w' => ∃ r : Int, e = .returned (.int .i64 r) ∧ decide (r ≥ 0) = (! evB n L) ∧ w = w' := by
  obtain ⟨hm, hr, hrows⟩ := h
  unfold maxLen at hm
  have hr0 := Lib.hid hr
  have hrows0 := Lib.hid hrows
  have hb0 := Lib.hid hb
  clear hr hrows hb
  go_enter Try.func60, Try.ntmps60
  go_wp2
  go_loopw [8] (fun k wr => ∃ i : Nat, k = .int .i64 i ∧ i ≤ n ∧ w = wr ∧ Hid (∀ j, j < i → evP L j)) (fun k _ => n - (intOf k).toNat)
  case atStart => exact ⟨0, rfl, by omega, rfl, fun j hj => absurd hj (Nat.not_lt_zero j)⟩
  case round =>
    obtain ⟨i, rfl, hi, rfl, hup⟩ := hrel
    by_cases hlt : i < n
    · obtain ⟨b1, off, rfl, hb1, hcs⟩ := hr0.out (by omega)
      have z0 : w.cell? ⟨b1, off, none⟩ = some (.slice (R 0) (L 0) (C 0)) := by simpa using hcs 0 (by omega)
      have z0 := Lib.hid z0
      have ci := hcs i hlt
      clear hcs
      have hli := (hrows0.out i hlt).1.1
      have hl0 := (hrows0.out 0 (by omega)).1.1
      go_wp2_with fail
      refine (even1_any _ _ _ n c b1 off b (R 0) (L 0) (C 0) _ hb0.out z0.out (by omega) hli hl0).mono ?_
      rintro e w1 ⟨rfl, rfl⟩
      by_cases hp : evP L i
      · have hd : decide (L i = L 0 ∧ L i ≤ 4096) = true := decide_eq_true hp
        have hs : Hid (∀ j, j < i + 1 → evP L j) := fun j hj => by
          by_cases hji : j = i
          · subst hji; exact hp
          · exact hup.out j (by omega)
        rw [hd]
        clear hp hd
        go_wp2
        go_roundw
        case rel => exact ⟨i + 1, by go_num, by omega, trivial, hs.out⟩
        case measure => simp [intOf]; omega
      · have hd : decide (L i = L 0 ∧ L i ≤ 4096) = false := decide_eq_false hp
        rw [hd]
        have hp := Lib.hid hp
        clear hd
        go_wp2
        go_ret
        refine ⟨_, rfl, ?_, ?_⟩
        · rw [evB_bad hlt hp.out]; simp
        · simp
    · have hin : i = n := by omega
      subst hin
      go_wp2
      go_ret
      refine ⟨_, rfl, ?_, ?_⟩
      · rw [evB_true hup.out]; rfl
      · simp
theorem ContainsFunc_even (n c b : Nat) (A : Option Addr) (R : Nat → Option Addr) (L C : Nat → Nat) (M : Nat → Nat → Int) (w : World) (h : RdM .u8 w A n R L C M) (hb : w.cell? ⟨b, 0, none⟩ = some (.slice A n c)) :
    Calls Try.prog 45 #[.slice A n c, .func (.func 46) #[] #[.pointer (some ⟨b, 0, none⟩)]] w fun e w' => e = .returned (.bool (! evB n L)) ∧ w = w' := by
  go_enter Try.func45, Try.ntmps45
  go_wp2_with fail
  refine (IndexFunc_even _ _ _ _ _ _ _ _ _ h hb).mono ?_
  rintro e w1 ⟨r, rfl, hr, rfl⟩
  have hr := Lib.hid hr
  go_wp2
  all_goals go_ret
  all_goals refine ⟨retb ?_, rfl⟩
  all_goals rw [← hr.out]
theorem even_any (n c : Nat) (A : Option Addr) (R : Nat → Option Addr) (L C : Nat → Nat) (M : Nat → Nat → Int) (w : World) (h : RdM .u8 w A n R L C M) :
    Calls Try.prog 22 #[.slice A n c] w fun e w' => e = .returned (.bool (evB n L)) ∧ New w w' := by
  have hN : New w (w.alloc (.cells #[.slice A n c] 22)) := (New.refl w).alloc _
  have hbx0 : (w.alloc (.cells #[.slice A n c] 22)).cell? ⟨w.heap.size, 0, none⟩ = some (.slice A n c) := by rw [(Blk.fresh w 22 #[.slice A n c]).cell 0]; rfl
  have hbx := Lib.hid hbx0
  clear hbx0
  go_enter Try.func22, Try.ntmps22
  go_wp2_with fail
  refine (ContainsFunc_even _ _ _ _ _ _ _ _ _ (h.new hN) hbx.out).mono ?_
  rintro e w1 ⟨rfl, rfl⟩
  go_wp2
  go_ret
  exact ⟨by simp, hN⟩
theorem May_any (n c : Nat) (A : Option Addr) (R : Nat → Option Addr) (L C : Nat → Nat) (M : Nat → Nat → Int) (w : World) (h : RdM .u8 w A n R L C M) :
    Calls Try.prog 8 #[.slice A n c] w fun e w' => e = .returned (.bool (mayC n L)) ∧ New w w' := by
  have hm := h.1
  unfold maxLen at hm
  by_cases hs : 1 ≤ n ∧ n ≤ 12
  · have e1 : (0 : Int) < n := by omega
    have e2 : (n : Int) ≤ 12 := by omega
    have hd : mayC n L = evB n L := by unfold mayC; rw [decide_eq_true hs]; rfl
    rw [hd]
    go_enter Try.func8, Try.ntmps8
    go_wp2_with fail
    refine (even_any _ _ _ _ _ _ _ _ h).mono ?_
    rintro e w1 ⟨rfl, hn⟩
    go_wp2
    go_ret
    exact ⟨by simp, hn⟩
  · have hd : mayC n L = false := by unfold mayC; rw [decide_eq_false hs]; rfl
    rw [hd]
    clear hd
    go_enter Try.func8, Try.ntmps8
    go_wp2
    all_goals go_ret
    all_goals exact ⟨by simp; try omega, New.refl _⟩
theorem ParMay_any (n c : Nat) (A : Option Addr) (R : Nat → Option Addr) (L C : Nat → Nat) (M : Nat → Nat → Int) (w : World) (h : RdM .u8 w A n R L C M) :
    Calls Try.prog 9 #[.slice A n c] w fun e w' => e = .returned (.bool (mayC n L)) ∧ w = w' := by
  have hm := h.1
  unfold maxLen at hm
  by_cases hs : 1 ≤ n ∧ n ≤ 12
  · obtain ⟨_, hr, hrows⟩ := h
    obtain ⟨b, off, rfl, hb, hcs⟩ := hr (by omega)
    have z0 := hcs 0 (by omega)
    simp at z0
    have hcs0 := Lib.hid hcs
    have hrows0 := Lib.hid hrows
    clear hcs hrows hr
    have e1 : (0 : Int) < n := by omega
    have e2 : decide ((n : Int) < 1) = false := by simp; omega
    have e3 : decide ((12 : Int) < n) = false := by simp; omega
    have hd : mayC n L = evB n L := by unfold mayC; rw [decide_eq_true hs]; rfl
    rw [hd]
    clear hd
    go_enter Try.func9, Try.ntmps9
    go_wp2
    go_loopw [15] (fun k wr => ∃ i : Nat, k = .int .i64 i ∧ i ≤ n ∧ w = wr ∧ Hid (∀ j, j < i → evP L j)) (fun k _ => n - (intOf k).toNat)
    case atStart => exact ⟨0, rfl, by omega, rfl, fun j hj => absurd hj (Nat.not_lt_zero j)⟩
    case round =>
      obtain ⟨i, rfl, hi, rfl, hup⟩ := hrel
      by_cases hlt : i < n
      · have hli := (hrows0.out i hlt).1.1
        have hl0 := (hrows0.out 0 (by omega)).1.1
        unfold maxLen at hli hl0
        obtain ⟨r, l, hR, hL, c0, hll⟩ : ∃ r l, Hid (R i = r) ∧ Hid (L i = l) ∧ w.cell? ⟨b, off + i, none⟩ = some (.slice r l (C i)) ∧ l ≤ 2 ^ 63 - 1 := ⟨_, _, (rfl : _ = _), (rfl : _ = _), hcs0.out i hlt, hli⟩
        by_cases hp : l = L 0 ∧ l ≤ 4096
        · have hs : Hid (∀ j, j < i + 1 → evP L j) := fun j hj => by
            by_cases hji : j = i
            · subst hji; unfold evP; rw [hL.out]; exact hp
            · exact hup.out j (by omega)
          obtain ⟨hp1, hp2⟩ := hp
          subst hp1
          have e4 : decide ((4096 : Int) < (L 0 : Int)) = false := by simp; omega
          go_wp2
          go_roundw
          case rel => exact ⟨i + 1, by go_num, by omega, trivial, hs.out⟩
          case measure => simp [intOf]; omega
        · have hs : Hid (¬ evP L i) := fun h => hp (by unfold evP at h; rw [hL.out] at h; exact h)
          go_wp2
          all_goals go_ret
          all_goals exact ⟨retb (evB_bad hlt hs.out).symm, rfl⟩
      · have hin : i = n := by omega
        subst hin
        go_wp2
        go_ret
        exact ⟨retb (evB_true hup.out).symm, rfl⟩
  · have hd : mayC n L = false := by unfold mayC; rw [decide_eq_false hs]; rfl
    rw [hd]
    clear hd
    go_enter Try.func9, Try.ntmps9
    go_wp2
    all_goals go_ret
    all_goals exact ⟨by simp; try omega, rfl⟩
end Go.Proofs.Ytjmjnodaohbpfaa.par
