/-
  Plain laws: rows are cleared column by column, by the two texts; both find the same number of rows.
-/
import Derived.Test.YtjmjnodaohbpfaaGfPlain
namespace Go.Proofs.Ytjmjnodaohbpfaa.mat
set_option linter.unusedVariables false
open Go.Proofs.Ytjmjnodaohbpfaa.gf

/-- the first row from t on, of k rows, that has something in column c -/
def pv (Z : Nat → Nat → Nat) (c : Nat) : Nat → Nat → Option Nat
  | _, 0 => none
  | t, k + 1 => if Z t c = 0 then pv Z c (t + 1) k else some t
theorem pv_some {Z : Nat → Nat → Nat} {c : Nat} : ∀ {k t p : Nat}, pv Z c t k = some p → t ≤ p ∧ p < t + k ∧ Z p c ≠ 0
  | 0, _, _, h => by cases h
  | k + 1, t, p, h => by
    unfold pv at h
    split at h
    · obtain ⟨h1, h2, h3⟩ := pv_some h
      exact ⟨by omega, by omega, h3⟩
    · rename_i h0
      cases h
      exact ⟨Nat.le_refl _, by omega, h0⟩
theorem pv_congr {Z Y : Nat → Nat → Nat} {c : Nat} : ∀ {k t : Nat}, (∀ i, t ≤ i → i < t + k → Z i c = Y i c) → pv Z c t k = pv Y c t k
  | 0, _, _ => rfl
  | k + 1, t, h => by
    unfold pv
    rw [h t (Nat.le_refl _) (by omega), pv_congr (k := k) (t := t + 1) fun i h1 h2 => h i (by omega) (by omega)]
theorem pv_next {Z : Nat → Nat → Nat} {c t k : Nat} (h : Z t c = 0) : pv Z c t (k + 1) = pv Z c (t + 1) k := if_pos h
/-- what the search has come to: the rows from t on, ahead of t + j, have nothing there -/
theorem pv_skip {Z : Nat → Nat → Nat} {c : Nat} : ∀ {j t k : Nat}, j ≤ k → (∀ i, t ≤ i → i < t + j → Z i c = 0) → pv Z c t k = pv Z c (t + j) (k - j)
  | 0, t, k, _, _ => rfl
  | j + 1, t, k, hj, h => by
    obtain ⟨k, rfl⟩ : ∃ k', k = k' + 1 := ⟨k - 1, by omega⟩
    rw [pv_next (h t (Nat.le_refl _) (by omega)), pv_skip (j := j) (t := t + 1) (k := k) (by omega) fun i h1 h2 => h i (by omega) (by omega)]
    rw [show t + 1 + j = t + (j + 1) by omega, show k - j = k + 1 - (j + 1) by omega]
theorem pv_found {Z : Nat → Nat → Nat} {c t j k : Nat} (hj : j < k) (h : ∀ i, t ≤ i → i < t + j → Z i c = 0) (h0 : Z (t + j) c ≠ 0) : pv Z c t k = some (t + j) := by
  rw [pv_skip (Nat.le_of_lt hj) h]
  obtain ⟨d, hd⟩ : ∃ d, k - j = d + 1 := ⟨k - j - 1, by omega⟩
  rw [hd]
  unfold pv
  rw [if_neg h0]
theorem pv_none {Z : Nat → Nat → Nat} {c t k : Nat} (h : ∀ i, t ≤ i → i < t + k → Z i c = 0) : pv Z c t k = none := by
  rw [pv_skip (Nat.le_refl k) h, Nat.sub_self]
  rfl
def swp (Z : Nat → Nat → Nat) (a b : Nat) : Nat → Nat → Nat := fun i => if i = a then Z b else if i = b then Z a else Z i
/-- one column of the reference -/
def eliR (Y : Nat → Nat → Nat) (c t : Nat) : Nat → Nat → Nat := fun i k => if t < i then Y i k ^^^ mul (divN (Y i c) (Y t c)) (Y t k) else Y i k
/-- one column of the program -/
def scaP (Y : Nat → Nat → Nat) (c t : Nat) : Nat → Nat → Nat := fun i k => if i = t then mul (Y t k) (divN 1 (Y t c)) else Y i k
def eliP (Y : Nat → Nat → Nat) (c t : Nat) : Nat → Nat → Nat := fun i k => if i = t then Y i k else if Y i c = 0 then Y i k else Y i k ^^^ mul (Y i c) (Y t k)
def stR (Z0 : Nat → Nat → Nat) (n : Nat) : Nat → (Nat → Nat → Nat) × Nat
  | 0 => (Z0, 0)
  | c + 1 => match pv (stR Z0 n c).1 c (stR Z0 n c).2 (n - (stR Z0 n c).2) with
    | none => stR Z0 n c
    | some p => (eliR (swp (stR Z0 n c).1 (stR Z0 n c).2 p) c (stR Z0 n c).2, (stR Z0 n c).2 + 1)
def stP (Z0 : Nat → Nat → Nat) (n : Nat) : Nat → (Nat → Nat → Nat) × Nat
  | 0 => (Z0, 0)
  | c + 1 => match pv (stP Z0 n c).1 c (stP Z0 n c).2 (n - (stP Z0 n c).2) with
    | none => stP Z0 n c
    | some p => (eliP (scaP (swp (stP Z0 n c).1 (stP Z0 n c).2 p) c (stP Z0 n c).2) c (stP Z0 n c).2, (stP Z0 n c).2 + 1)
theorem stR_none {Z0 : Nat → Nat → Nat} {n c : Nat} (h : pv (stR Z0 n c).1 c (stR Z0 n c).2 (n - (stR Z0 n c).2) = none) : stR Z0 n (c + 1) = stR Z0 n c := by
  rw [stR, h]
theorem stR_some {Z0 : Nat → Nat → Nat} {n c p : Nat} (h : pv (stR Z0 n c).1 c (stR Z0 n c).2 (n - (stR Z0 n c).2) = some p) : stR Z0 n (c + 1) = (eliR (swp (stR Z0 n c).1 (stR Z0 n c).2 p) c (stR Z0 n c).2, (stR Z0 n c).2 + 1) := by
  rw [stR, h]
theorem stP_none {Z0 : Nat → Nat → Nat} {n c : Nat} (h : pv (stP Z0 n c).1 c (stP Z0 n c).2 (n - (stP Z0 n c).2) = none) : stP Z0 n (c + 1) = stP Z0 n c := by
  rw [stP, h]
theorem stP_some {Z0 : Nat → Nat → Nat} {n c p : Nat} (h : pv (stP Z0 n c).1 c (stP Z0 n c).2 (n - (stP Z0 n c).2) = some p) : stP Z0 n (c + 1) = (eliP (scaP (swp (stP Z0 n c).1 (stP Z0 n c).2 p) c (stP Z0 n c).2) c (stP Z0 n c).2, (stP Z0 n c).2 + 1) := by
  rw [stP, h]
def bytesP (Z : Nat → Nat → Nat) (n m : Nat) : Prop := ∀ i k, i < n → k < m → Z i k < 256
theorem swp_bytes {Z : Nat → Nat → Nat} {n m a b : Nat} (h : bytesP Z n m) (ha : a < n) (hb : b < n) : bytesP (swp Z a b) n m := fun i k hi hk => by
  unfold swp
  split
  · exact h _ _ hb hk
  · split
    · exact h _ _ ha hk
    · exact h _ _ hi hk
theorem eliR_bytes {Y : Nat → Nat → Nat} {n m c t : Nat} (h : bytesP Y n m) (ht : t < n) : bytesP (eliR Y c t) n m := fun i k hi hk => by
  unfold eliR
  split
  · exact xor_lt8 (h _ _ hi hk) (mul_lt _ _ (divN_lt _ _))
  · exact h _ _ hi hk
theorem scaP_bytes {Y : Nat → Nat → Nat} {n m c t : Nat} (h : bytesP Y n m) (ht : t < n) : bytesP (scaP Y c t) n m := fun i k hi hk => by
  unfold scaP
  split
  · exact mul_lt _ _ (h _ _ ht hk)
  · exact h _ _ hi hk
theorem eliP_bytes {Y : Nat → Nat → Nat} {n m c t : Nat} (h : bytesP Y n m) (hc : c < m) : bytesP (eliP Y c t) n m := fun i k hi hk => by
  unfold eliP
  split
  · exact h _ _ hi hk
  · split
    · exact h _ _ hi hk
    · exact xor_lt8 (h _ _ hi hk) (mul_lt _ _ (h _ _ hi hc))
theorem stR_bytes {Z0 : Nat → Nat → Nat} {n m : Nat} (h : bytesP Z0 n m) : ∀ c, bytesP (stR Z0 n c).1 n m ∧ (stR Z0 n c).2 ≤ n
  | 0 => ⟨h, Nat.zero_le _⟩
  | c + 1 => by
    obtain ⟨h1, h2⟩ := stR_bytes h c
    cases hp : pv (stR Z0 n c).1 c (stR Z0 n c).2 (n - (stR Z0 n c).2) with
    | none => rw [stR_none hp]; exact ⟨h1, h2⟩
    | some p =>
      obtain ⟨g1, g2, _⟩ := pv_some hp
      rw [stR_some hp]
      exact ⟨eliR_bytes (swp_bytes h1 (by omega) (by omega)) (by omega), by simp only; omega⟩
theorem stP_bytes {Z0 : Nat → Nat → Nat} {n m : Nat} (h : bytesP Z0 n m) : ∀ c, c ≤ m → bytesP (stP Z0 n c).1 n m ∧ (stP Z0 n c).2 ≤ n
  | 0, _ => ⟨h, Nat.zero_le _⟩
  | c + 1, hc => by
    obtain ⟨h1, h2⟩ := stP_bytes h c (by omega)
    cases hp : pv (stP Z0 n c).1 c (stP Z0 n c).2 (n - (stP Z0 n c).2) with
    | none => rw [stP_none hp]; exact ⟨h1, h2⟩
    | some p =>
      obtain ⟨g1, g2, _⟩ := pv_some hp
      rw [stP_some hp]
      exact ⟨eliP_bytes (scaP_bytes (swp_bytes h1 (by omega) (by omega)) (by omega)) (by omega), by simp only; omega⟩
/-- a quotient is a product with the inverse -/
theorem div_inv (a b : Nat) (ha : a < 256) (hb : b < 256) (b0 : b ≠ 0) : divN a b = mul a (divN 1 b) := by
  symm
  rw [← div_unique _ a b (mul_lt _ _ ha) ha hb b0, mul_assoc _ _ _ ha (divN_lt _ _) hb, div_mul 1 b (by omega) hb b0, mul_one]
/-- the rows below come out the same -/
theorem step_same {a b p q : Nat} (ha : a < 256) (hb : b < 256) (hp : p < 256) (hq : q < 256) (q0 : q ≠ 0) : (if b = 0 then a else a ^^^ mul b (mul p (divN 1 q))) = a ^^^ mul (divN b q) p := by
  by_cases h0 : b = 0
  · subst h0
    rw [if_pos rfl, show divN 0 q = 0 from if_pos rfl, zero_mul, Nat.xor_zero]
  · rw [if_neg h0, div_inv b q hb hq q0, mul_assoc _ _ _ hb (divN_lt _ _) hp, mul_comm (divN 1 q) p (divN_lt _ _) hp]
/-- both texts find the same: the rows that are not done yet are alike -/
theorem rank_same {Z0 Y0 : Nat → Nat → Nat} {n m : Nat} (hZ : bytesP Z0 n m) (hY : bytesP Y0 n m) (h0 : ∀ i k, i < n → k < m → Z0 i k = Y0 i k) :
    ∀ c, c ≤ m → (stR Z0 n c).2 = (stP Y0 n c).2 ∧ ∀ i k, (stR Z0 n c).2 ≤ i → i < n → k < m → (stR Z0 n c).1 i k = (stP Y0 n c).1 i k
  | 0, _ => ⟨rfl, fun i k _ h1 h2 => h0 i k h1 h2⟩
  | c + 1, hc => by
    obtain ⟨e1, e2⟩ := rank_same hZ hY h0 c (by omega)
    obtain ⟨b1, b2⟩ := stR_bytes hZ c
    obtain ⟨b3, _⟩ := stP_bytes hY c (by omega)
    have hpv : pv (stR Z0 n c).1 c (stR Z0 n c).2 (n - (stR Z0 n c).2) = pv (stP Y0 n c).1 c (stP Y0 n c).2 (n - (stP Y0 n c).2) := by
      rw [← e1]
      exact pv_congr fun i h1 h2 => e2 i c h1 (by omega) (by omega)
    cases hp : pv (stR Z0 n c).1 c (stR Z0 n c).2 (n - (stR Z0 n c).2) with
    | none =>
      rw [stR_none hp, stP_none (hpv ▸ hp)]
      exact ⟨e1, e2⟩
    | some p =>
      obtain ⟨g1, g2, g3⟩ := pv_some hp
      rw [stR_some hp, stP_some (hpv ▸ hp)]
      refine ⟨by simp only; omega, fun i k hi hin hk => ?_⟩
      simp only at hi
      rw [← e1]
      generalize (stR Z0 n c).2 = t at *
      generalize (stR Z0 n c).1 = Z at *
      generalize (stP Y0 n c).1 = Y at *
      have hs : ∀ j k, t ≤ j → j < n → k < m → swp Z t p j k = swp Y t p j k := fun j k h1 h2 h3 => by
        unfold swp
        split
        · exact e2 p k g1 (by omega) h3
        · split
          · exact e2 t k (Nat.le_refl _) (by omega) h3
          · exact e2 j k h1 h2 h3
      have hb1 := swp_bytes b1 (a := t) (b := p) (by omega) (by omega)
      have q0 : swp Z t p t c ≠ 0 := by unfold swp; rw [if_pos rfl]; exact g3
      have hit : ¬ i = t := by omega
      simp only [eliR, eliP]
      rw [if_pos (by omega), if_neg hit]
      have e3 : scaP (swp Y t p) c t i c = swp Y t p i c := by unfold scaP; rw [if_neg hit]
      have e4 : scaP (swp Y t p) c t i k = swp Y t p i k := by unfold scaP; rw [if_neg hit]
      have e5 : scaP (swp Y t p) c t t k = mul (swp Y t p t k) (divN 1 (swp Y t p t c)) := by unfold scaP; rw [if_pos rfl]
      rw [e3, e4, e5, ← hs i k (by omega) hin hk, ← hs i c (by omega) hin (by omega), ← hs t k (Nat.le_refl _) (by omega) hk, ← hs t c (Nat.le_refl _) (by omega) (by omega)]
      exact (step_same (hb1 _ _ hin hk) (hb1 _ _ hin (by omega)) (hb1 _ _ (by omega) hk) (hb1 _ _ (by omega) (by omega)) q0).symm
end Go.Proofs.Ytjmjnodaohbpfaa.mat
