/-
  Contract of the reference: may a matrix be.
-/
import Derived.Test.YtidhghcgbomdiaaMatMay
namespace Go.Proofs.Ytidhghcgbomdiaa.mat
open Go.ChangeShapes Go.WideShapes Go.ChangeAt Go.RowKit Go.Proofs.Ytidhghcgbomdiaa.kit
set_option linter.unusedVariables false

theorem MatMay_any (A : Option Addr) (n c : Nat) (R : Nat → Option Addr) (L C : Nat → Nat) (M : Nat → Nat → Int) (w : World) (h : RdM .i64 w A n R L C M) :
    Calls Try.prog 28 #[.slice A n c] w fun e w' => e = .returned (.bool (mayM n L M)) ∧ w = w' := by
  obtain ⟨hm, hr, hrows⟩ := h
  unfold maxLen at hm
  by_cases hn0 : n = 0
  · have hsize : Hid (¬ (1 ≤ n ∧ n ≤ 8)) := fun h => by omega
    subst hn0
    go_enter Try.func28, Try.ntmps28
    go_wp2
    all_goals go_ret
    all_goals exact ⟨retb (mayM_size hsize.out).symm, rfl⟩
  obtain ⟨b, off, rfl, hb, hcs0⟩ := hr (by omega)
  have hrows0 := Lib.hid hrows
  have hcs := Lib.hid hcs0
  clear hrows hcs0 hr
  have hrows := hrows0
  clear hrows0
  have z0 := hcs.out 0 (by omega)
  simp at z0
  have hpos : (0:Int) < n := by omega
  have hne : ((n : Int) == 0) = false := by simp; omega
  by_cases hsize : n ≤ 8 ∧ 1 ≤ L 0 ∧ L 0 ≤ 8
  · obtain ⟨hs1, hs2, hs3⟩ := hsize
    have hle : decide ((8 : Int) < n) = false := by simp; omega
    have hl0 : ((L 0 : Int) == 0) = false := by simp; omega
    have hl1 : decide ((8 : Int) < (L 0 : Int)) = false := by simp; omega
    go_enter Try.func28, Try.ntmps28
    go_wp2
    go_loopw [31] (fun k wr => ∃ i : Nat, k = .int .i64 i ∧ i ≤ n ∧ w = wr ∧ Hid (∀ j, j < i → rowP L M j)) (fun k _ => n - (intOf k).toNat)
    case atStart => exact ⟨0, rfl, by omega, rfl, fun j hj => absurd hj (Nat.not_lt_zero j)⟩
    case round =>
      obtain ⟨i, rfl, hi, rfl, hup⟩ := hrel
      by_cases hlt : i < n
      · obtain ⟨r, l, hR, hL, c0, hrow⟩ : ∃ r l, Hid (R i = r) ∧ Hid (L i = l) ∧ w.cell? ⟨b, off + i, none⟩ = some (.slice r l (C i)) ∧ Hid (RdI .i64 w r l (M i)) := ⟨_, _, (rfl : _ = _), (rfl : _ = _), hcs.out i hlt, (hrows.out i hlt).1⟩
        by_cases hp : l = L 0
        · subst hp
          obtain ⟨b2, off2, rfl, hb2, hcs2⟩ := hrow.out.2 (by omega)
          have hcs3 := Lib.hid hcs2
          clear hrow hcs2
          have hcs2 := hcs3
          clear hcs3
          go_wp2
          go_loopw [44] (fun k wr => ∃ q : Nat, k = .int .i64 q ∧ q ≤ L 0 ∧ w = wr ∧ Hid (∀ j, j < q → elP (M i j))) (fun k _ => L 0 - (intOf k).toNat)
          case atStart => exact ⟨0, rfl, by omega, rfl, fun j hj => absurd hj (Nat.not_lt_zero j)⟩
          case round =>
            obtain ⟨q, rfl, hq, rfl, hup2⟩ := hrel
            by_cases hql : q < L 0
            · have c1 := hcs2.out q hql
              go_wp2_with fail
              refine (Element_any _ _).mono ?_
              rintro e w1 ⟨rfl, rfl⟩
              by_cases hp2 : elP (M i q)
              · have hd : decide (elP (M i q)) = true := decide_eq_true hp2
                have hs : Hid (∀ j, j < q + 1 → elP (M i j)) := fun j hj => by
                  by_cases hji : j = q
                  · subst hji; exact hp2
                  · exact hup2.out j (by omega)
                clear hp2
                go_wp2
                go_roundw
                case rel => exact ⟨q + 1, by go_num, by omega, trivial, hs.out⟩
                case measure => simp [intOf]; omega
              · have hd : decide (elP (M i q)) = false := decide_eq_false hp2
                have hs : Hid (¬ rowP L M i) := fun h => by have h2 := h.2.2.2; rw [hL.out, allE_bad hql hp2] at h2; cases h2
                clear hp2
                go_wp2
                go_ret
                exact ⟨retb (mayM_bad hlt hs.out).symm, rfl⟩
            · have hin : q = L 0 := by omega
              have hs : Hid (∀ j, j < i + 1 → rowP L M j) := fun j hj => by
                by_cases hji : j = i
                · subst hji; exact ⟨hL.out, by rw [hL.out]; omega, by rw [hL.out]; omega, by rw [hL.out]; exact allE_true (by rw [← hin]; exact hup2.out)⟩
                · exact hup.out j (by omega)
              go_wp2
              go_roundw
              case rel => exact ⟨i + 1, by go_num, by omega, trivial, hs.out⟩
              case measure => simp [intOf]; omega
        · have hs : Hid (¬ rowP L M i) := fun h => hp (hL.out ▸ h.1)
          go_wp2
          go_ret
          exact ⟨retb (mayM_bad hlt hs.out).symm, rfl⟩
      · have hin : i = n := by omega
        subst hin
        go_wp2
        go_ret
        exact ⟨retb (mayM_true (by omega) (by omega) hup.out).symm, rfl⟩
  · have hs : Hid (mayM n L M = false) := by
      by_cases h8 : n ≤ 8
      · exact mayM_bad (j := 0) (by omega) fun h => hsize ⟨h8, h.2.1, h.2.2.1⟩
      · exact mayM_size fun h => h8 h.2
    go_enter Try.func28, Try.ntmps28
    go_wp2
    all_goals go_ret
    all_goals exact ⟨retb hs.out.symm, rfl⟩
end Go.Proofs.Ytidhghcgbomdiaa.mat
