/-
  The edges of ranges that may be: how deep a number lies; the closures of package span.
-/
import Derived.Test.YthkgcbjfgglciaaSpanEdges
import Derived.Test.YthkgcbjfgglciaaSpanHas
namespace Go.Proofs.Ythkgcbjfgglciaa.spans
open Go.ChangeShapes Go.WideShapes Go.ChangeAt Go.RowKit Go.Proofs.Ythkgcbjfgglciaa.kit Go.Proofs.Ythkgcbjfgglciaa.span Go.Deep
set_option linter.unusedVariables false

theorem wsum_edL (F T : Nat → Int) (b : Int) : ∀ k, wsum (edL F T b k) = 0
  | 0 => rfl
  | k + 1 => by
    unfold edL
    rw [wsum_append, wsum_edL F T b k]
    simp only [wsum]
    omega
theorem edL_in {F T : Nat → Int} {b : Int} : ∀ {k : Nat} {e : Int × Int}, e ∈ edL F T b k → ∃ j, j < k ∧ (e = (F j, b) ∨ e = (T j, -b))
  | 0, e, h => by cases h
  | k + 1, e, h => by
    unfold edL at h
    rcases List.mem_append.1 h with h1 | h1
    · obtain ⟨j, hj, h2⟩ := edL_in h1
      exact ⟨j, by omega, h2⟩
    · simp at h1
      exact ⟨k, by omega, h1⟩
theorem edL_bd {F T : Nat → Int} {b : Int} {n : Nat} (hm : ∀ j, j < n → stepP F T j) (hb : b = 1 ∨ b = -1) : ∀ e ∈ edL F T b n, 0 ≤ e.1 ∧ e.1 ≤ 1048576 ∧ -1 ≤ e.2 ∧ e.2 ≤ 1 := fun e he => by
  obtain ⟨j, hj, h⟩ := edL_in he
  have h1 := (hm j hj).1
  unfold oneP at h1
  rcases h with rfl | rfl
  · exact ⟨h1.1, by simp only; omega, by simp only; omega, by simp only; omega⟩
  · exact ⟨by simp only; omega, h1.2.2, by simp only; omega, by simp only; omega⟩
/-- how many of the first k ranges hold a number: none or one -/
theorem dep_edL {F T : Nat → Int} {b : Int} {n : Nat} (hm : ∀ j, j < n → stepP F T j) (x : Int) : ∀ k, k ≤ n → dep (edL F T b k) x = if (List.range k).any (fun j => inB F T x j) then b else 0
  | 0, _ => by simp [edL, dep]
  | k + 1, h => by
    have ih := dep_edL (b := b) hm x k (by omega)
    have hk := (hm k (by omega)).1
    unfold oneP at hk
    unfold edL
    rw [dep_append, ih]
    simp only [dep]
    rw [List.range_succ, List.any_append]
    simp only [List.any_cons, List.any_nil, Bool.or_false]
    by_cases hx : F k ≤ x
    · have hno : (List.range k).any (fun j => inB F T x j) = false := by
        rw [List.any_eq_false]
        intro j hj
        have hj' := List.mem_range.1 hj
        have := (steps hm (k - j) j (by omega)).2 (by omega)
        rw [show j + (k - j) = k by omega] at this
        unfold inB
        simp
        intro _
        omega
      rw [hno]
      by_cases ht : T k ≤ x
      · have hi : inB F T x k = false := by unfold inB; simp; omega
        rw [hi, if_pos hx, if_pos ht]
        simp
        omega
      · have hi : inB F T x k = true := by unfold inB; simp; omega
        rw [hi, if_pos hx, if_neg ht]
        simp
    · have hi : inB F T x k = false := by unfold inB; simp; omega
      have ht : ¬ T k ≤ x := by omega
      rw [hi, if_neg hx, if_neg ht]
      simp
theorem dep_has {F T : Nat → Int} {b : Int} {n : Nat} (hm : mayB n F T = true) (x : Int) : dep (edL F T b n) x = if hasB n F T x then b else 0 := by
  rw [dep_edL (mayB_out hm).2 x n (Nat.le_refl _)]
  unfold hasB
  rw [hm, Bool.true_and]
theorem Add1_any (d : Int) (w : World) : Calls Try.prog 43 #[.int .i64 d] w fun e w' => e = .returned (.bool (decide (0 < d))) ∧ w = w' := by
  go_enter Try.func43, Try.ntmps43
  go_wp2
  go_ret
  exact ⟨by simp, rfl⟩
theorem Cut1_any (d : Int) (w : World) : Calls Try.prog 47 #[.int .i64 d] w fun e w' => e = .returned (.bool (decide (0 < d))) ∧ w = w' := by
  go_enter Try.func47, Try.ntmps47
  go_wp2
  go_ret
  exact ⟨by simp, rfl⟩
theorem Both1_any (d : Int) (w : World) : Calls Try.prog 49 #[.int .i64 d] w fun e w' => e = .returned (.bool (d == 2)) ∧ w = w' := by
  go_enter Try.func49, Try.ntmps49
  go_wp2
  go_ret
  exact ⟨by simp, rfl⟩
/-- told: at most 200 ranges -/
theorem told_any (A : Option Addr) (n c : Nat) (w : World) (hn : n ≤ maxLen) :
    Calls Try.prog 40 #[.slice A n c] w fun e w' => e = .returned (.tuple #[if n ≤ 200 then .slice A n c else .slice none 0 0, .int .i64 (if n ≤ 200 then 0 else 8)]) ∧ w = w' := by
  unfold maxLen at hn
  by_cases h : n ≤ 200
  · rw [if_pos h, if_pos h]
    have hd : decide ((200 : Int) < (n : Int)) = false := by simp; omega
    go_enter Try.func40, Try.ntmps40
    go_wp2
    go_ret2
    exact ⟨rfl, rfl⟩
  · rw [if_neg h, if_neg h]
    have hd : decide ((200 : Int) < (n : Int)) = true := by simp; omega
    go_enter Try.func40, Try.ntmps40
    go_wp2
    go_ret2
    exact ⟨rfl, rfl⟩
end Go.Proofs.Ythkgcbjfgglciaa.spans
