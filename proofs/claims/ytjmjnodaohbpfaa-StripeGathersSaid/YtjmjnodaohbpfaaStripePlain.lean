/-
  Plain laws: how a block is dealt out in columns.
-/
import Derived.Test.YtjmjnodaohbpfaaGeomCol
namespace Go.Proofs.Ytjmjnodaohbpfaa.stripe
open Go.Proofs.Ytjmjnodaohbpfaa.geom
set_option linter.unusedVariables false
/-- how many data columns -/
def dcN (ct wd : Nat) : Nat := if ct / wd = 0 then ct % wd else wd
/-- where the j-th data column begins -/
def atS (ct wd j : Nat) : Nat := 128 * (j * (ct / wd) + min j (ct % wd))
theorem num_dc {pa ct wd : Nat} (hw : 1 ≤ wd) : numP (pa + wd) pa ct wd = pa + dcN ct wd ∨ (ct / wd = 0 ∧ ct % wd = 0) := by
  unfold numP dcN longP
  by_cases h : ct / wd = 0
  · rw [if_pos h, if_pos h]
    by_cases h2 : 0 < ct % wd
    · rw [if_pos h2]; left; omega
    · right; omega
  · rw [if_neg h, if_neg h]
    left; rfl
theorem div_mod_pos {ct wd : Nat} (hw : 1 ≤ wd) (hc : 1 ≤ ct) : 0 < ct / wd ∨ 0 < ct % wd := by
  rcases Nat.eq_zero_or_pos (ct / wd) with h | h
  · right
    have := Nat.div_add_mod ct wd
    rw [h] at this
    omega
  · exact .inl h
theorem numP_eq {pa ct wd : Nat} (hw : 1 ≤ wd) (hc : 1 ≤ ct) : numP (pa + wd) pa ct wd = pa + dcN ct wd := by
  rcases num_dc (pa := pa) (ct := ct) hw with h | h
  · exact h
  · have := div_mod_pos hw hc; omega
theorem dc_pos {ct wd : Nat} (hw : 1 ≤ wd) (hc : 1 ≤ ct) : 1 ≤ dcN ct wd := by
  have := div_mod_pos hw hc
  unfold dcN
  split <;> omega
theorem dc_le {ct wd : Nat} (hw : 1 ≤ wd) (hc : 1 ≤ ct) : dcN ct wd ≤ wd := by
  have := Nat.mod_lt ct hw
  unfold dcN
  split <;> omega
theorem cnt_data {pa ct wd : Nat} (hw : 1 ≤ wd) (hc : 1 ≤ ct) (j : Nat) : cntC pa ct wd (pa + j) = ct / wd + (if j < ct % wd then 1 else 0) := by
  unfold cntC longP
  by_cases h : 0 < ct % wd
  · rw [if_pos h]
    congr 1
    by_cases h2 : j < ct % wd
    · rw [if_pos h2, if_pos (by omega)]
    · rw [if_neg h2, if_neg (by omega)]
  · rw [if_neg h, if_neg (by omega), if_neg (by omega)]
theorem cnt_parity {pa ct wd : Nat} (hw : 1 ≤ wd) (hc : 1 ≤ ct) (hpa : 1 ≤ pa) (c : Nat) (hcp : c < pa) : cntC pa ct wd c = cntC pa ct wd 0 := by
  unfold cntC longP
  by_cases h : 0 < ct % wd
  · rw [if_pos h, if_pos (by omega), if_pos (by omega)]
  · rw [if_neg h, if_neg (by omega), if_neg (by omega)]
theorem cnt_le {pa ct wd : Nat} (hw : 1 ≤ wd) (hc : 1 ≤ ct) (hpa : 1 ≤ pa) (c : Nat) : cntC pa ct wd c ≤ cntC pa ct wd 0 := by
  unfold cntC longP
  by_cases h : 0 < ct % wd
  · rw [if_pos h, if_pos (show 0 < ct % wd + pa by omega)]
    split <;> omega
  · rw [if_neg h, if_neg (by omega), if_neg (by omega)]
    exact Nat.le_refl _
theorem cnt_zero_pos {pa ct wd : Nat} (hw : 1 ≤ wd) (hc : 1 ≤ ct) (hpa : 1 ≤ pa) : 1 ≤ cntC pa ct wd 0 := by
  have := div_mod_pos hw hc
  unfold cntC longP
  rcases Nat.eq_zero_or_pos (ct % wd) with h | h
  · omega
  · rw [if_pos h, if_pos (by omega)]; exact Nat.le_add_left 1 _
theorem cnt_pos {pa ct wd : Nat} (hw : 1 ≤ wd) (hc : 1 ≤ ct) (j : Nat) (hj : j < dcN ct wd) : 1 ≤ cntC pa ct wd (pa + j) := by
  rw [cnt_data hw hc]
  unfold dcN at hj
  split at hj
  · rw [if_pos hj]; exact Nat.le_add_left 1 _
  · rename_i h0
    exact Nat.le_trans (Nat.pos_of_ne_zero h0) (Nat.le_add_right _ _)
theorem cnt_max {pa ct wd : Nat} (hw : 1 ≤ wd) (hc : 1 ≤ ct) (hct : ct ≤ 32) (hpa : 1 ≤ pa) : cntC pa ct wd 0 ≤ 32 := by
  unfold cntC
  have h1 := Nat.div_le_self ct wd
  have h2 := Nat.div_add_mod ct wd
  by_cases h : 0 < ct % wd
  · have : ct / wd ≤ 31 := by
      have h3 : wd * (ct / wd) < ct := by omega
      have h4 : ct / wd ≤ wd * (ct / wd) := Nat.le_mul_of_pos_left _ hw
      omega
    split <;> omega
  · unfold longP
    rw [if_neg h, if_neg (by omega)]
    omega
theorem at_next {pa ct wd : Nat} (hw : 1 ≤ wd) (hc : 1 ≤ ct) (j : Nat) : atS ct wd (j + 1) = atS ct wd j + 128 * cntC pa ct wd (pa + j) := by
  rw [cnt_data hw hc]
  unfold atS
  rw [show (j + 1) * (ct / wd) = j * (ct / wd) + ct / wd from Nat.succ_mul _ _]
  generalize j * (ct / wd) = x
  generalize ct / wd = q
  generalize ct % wd = r
  split
  · rw [Nat.min_eq_left (by omega), Nat.min_eq_left (by omega)]; omega
  · rw [Nat.min_eq_right (by omega), Nat.min_eq_right (by omega)]; omega
theorem at_end {ct wd : Nat} (hw : 1 ≤ wd) (hc : 1 ≤ ct) : atS ct wd (dcN ct wd) = 128 * ct := by
  have h2 := Nat.div_add_mod ct wd
  have h3 := Nat.mod_lt ct hw
  unfold atS dcN
  by_cases h : ct / wd = 0
  · rw [if_pos h, h]
    rw [h] at h2
    omega
  · rw [if_neg h, Nat.min_eq_right (by omega)]
    rw [h2]
theorem at_mono {ct wd : Nat} (hw : 1 ≤ wd) (hc : 1 ≤ ct) : ∀ (d j : Nat), atS ct wd j ≤ atS ct wd (j + d)
  | 0, j => Nat.le_refl _
  | d + 1, j => by
    have h1 := at_next (pa := 0) hw hc (j + d)
    have h2 := at_mono hw hc d j
    rw [show j + (d + 1) = j + d + 1 by omega]
    omega
theorem at_le {ct wd : Nat} (hw : 1 ≤ wd) (hc : 1 ≤ ct) (j : Nat) (hj : j ≤ dcN ct wd) : atS ct wd j ≤ 128 * ct := by
  have h1 := at_mono hw hc (dcN ct wd - j) j
  rw [show j + (dcN ct wd - j) = dcN ct wd by omega, at_end hw hc] at h1
  exact h1
theorem at_zero (ct wd : Nat) : atS ct wd 0 = 0 := by simp [atS]
/-- the data, behind them noughts -/
def fullX (X : Nat → Nat) (len k : Nat) : Nat := if k < len then X k else 0
/-- a data column, as long as the longest -/
def longX (X : Nat → Nat) (len pa ct wd j k : Nat) : Nat := if k < 128 * cntC pa ct wd (pa + j) then fullX X len (atS ct wd j + k) else 0
end Go.Proofs.Ytjmjnodaohbpfaa.stripe
