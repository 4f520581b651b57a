/-
  Plain laws: the reference's steps on a matrix with a column beside it, and the steps backwards.
-/
import Derived.Test.YtjmjnodaohbpfaaMatSolve
namespace Go.Proofs.Ytjmjnodaohbpfaa.fld
open Go.Proofs.Ytjmjnodaohbpfaa.gf Go.Proofs.Ytjmjnodaohbpfaa.mat
set_option linter.unusedVariables false
set_option linter.unusedSimpArgs false

/-- a matrix, a column beside it -/
def colN (A : Nat → Nat → Nat) (n k : Nat) : Nat → Nat → Nat := fun i j => if j < n then A i j else unN k i
theorem unN_lt (k i : Nat) : unN k i < 256 := by unfold unN; split <;> omega
theorem colN_bytes {A : Nat → Nat → Nat} {n k : Nat} (h : bytesP A n n) : bytesP (colN A n k) n (n + 1) := fun i j hi hj => by
  unfold colN
  split
  · exact h i j hi (by assumption)
  · exact unN_lt _ _
theorem stR_rank {A : Nat → Nat → Nat} {n k : Nat} (h : bytesP A n n) (hr : (stR A n n).2 = n) {c : Nat} (hc : c ≤ n) : (stR (colN A n k) n c).2 = c := by
  have e1 := (rank_same (Z0 := colN A n k) (Y0 := A) (n := n) (m := n) (fun i j hi hj => colN_bytes h i j hi (by omega)) h (fun i j hi hj => by unfold colN; rw [if_pos hj]) c hc).1
  have e2 := (rank_same h h (fun _ _ _ _ => rfl) n (Nat.le_refl _)).1
  rw [e1]
  exact stP_all (by rw [← e2]; exact hr) hc
/-- the matrix ahead of column c -/
def gaN (A : Nat → Nat → Nat) (n k c : Nat) : Nat → Nat → Nat := (stR (colN A n k) n c).1
theorem gaN_bytes {A : Nat → Nat → Nat} {n k : Nat} (h : bytesP A n n) (c : Nat) : bytesP (gaN A n k c) n (n + 1) := (stR_bytes (colN_bytes h) c).1
theorem gaN_pv {A : Nat → Nat → Nat} {n k : Nat} (h : bytesP A n n) (hr : (stR A n n).2 = n) {c : Nat} (hc : c < n) :
    ∃ p, pv (gaN A n k c) c c (n - c) = some p ∧ c ≤ p ∧ p < n ∧ gaN A n k c p c ≠ 0 ∧ gaN A n k (c + 1) = eliR (swp (gaN A n k c) c p) c c := by
  have e1 := stR_rank (k := k) h hr (Nat.le_of_lt hc)
  have e2 := stR_rank (k := k) h hr (show c + 1 ≤ n by omega)
  cases hp : pv (stR (colN A n k) n c).1 c (stR (colN A n k) n c).2 (n - (stR (colN A n k) n c).2) with
  | none => rw [stR_none hp] at e2; omega
  | some p =>
    obtain ⟨g1, g2, g3⟩ := pv_some hp
    have e3 := stR_some hp
    rw [e1] at hp e3
    rw [e1] at g1 g2
    exact ⟨p, hp, g1, by omega, g3, congrArg Prod.fst e3⟩
theorem pv_before {Z : Nat → Nat → Nat} {c : Nat} : ∀ {k t p : Nat}, pv Z c t k = some p → ∀ i, t ≤ i → i < p → Z i c = 0
  | 0, _, _, h => by cases h
  | k + 1, t, p, h => fun i h1 h2 => by
    unfold pv at h
    split at h
    · by_cases e : i = t
      · rw [e]; assumption
      · exact pv_before h i (by omega) h2
    · cases h; omega
/-- the shape: what lies below the diagonal is nought -/
theorem gaN_shape {A : Nat → Nat → Nat} {n k : Nat} (h : bytesP A n n) (hr : (stR A n n).2 = n) : ∀ c, c ≤ n → (∀ i j, i < n → j < c → j < i → gaN A n k c i j = 0) ∧ ∀ j, j < c → gaN A n k c j j ≠ 0
  | 0, _ => ⟨fun _ _ _ hj _ => absurd hj (by omega), fun _ hj => absurd hj (by omega)⟩
  | c + 1, hc => by
    obtain ⟨ih1, ih2⟩ := gaN_shape (k := k) h hr c (by omega)
    obtain ⟨p, hp, g1, g2, g3, e⟩ := gaN_pv (k := k) h hr (show c < n by omega)
    have b1 := gaN_bytes (k := k) h c
    rw [e]
    generalize gaN A n k c = Z at *
    have hb1 := swp_bytes b1 (a := c) (b := p) (by omega) g2
    have q0 : swp Z c p c c ≠ 0 := by unfold swp; rw [if_pos rfl]; exact g3
    have hs : ∀ i j, i < n → j < c → j < i → swp Z c p i j = 0 := fun i j hi hj hji => by
      unfold swp
      split
      · exact ih1 p j g2 hj (by omega)
      · split
        · exact ih1 c j (by omega) hj hj
        · exact ih1 i j hi hj hji
    have hd : ∀ j, j < c → swp Z c p j j ≠ 0 := fun j hj => by
      unfold swp
      rw [if_neg (by omega), if_neg (by omega)]
      exact ih2 j hj
    generalize swp Z c p = Y at *
    refine ⟨fun i j hi hj hji => ?_, fun j hj => ?_⟩
    · unfold eliR
      by_cases hjc : j = c
      · subst hjc
        rw [if_pos (by omega), div_mul _ _ (hb1 i j hi (by omega)) (hb1 j j (by omega) (by omega)) q0, Nat.xor_self]
      · split
        · rw [hs i j hi (by omega) hji, hs c j (by omega) (by omega) (by omega), gf.mul_zero]
          rfl
        · exact hs i j hi (by omega) hji
    · unfold eliR
      rw [if_neg (by omega)]
      by_cases hjc : j = c
      · rw [hjc]; exact q0
      · exact hd j (by omega)
/-- the reference leaves the columns that are done alone -/
theorem gaN_next {A : Nat → Nat → Nat} {n k c p : Nat} (h : bytesP A n n) (hr : (stR A n n).2 = n) (hc : c < n) (hcp : c ≤ p) (hpn : p < n) {i j : Nat} (hi : i < n) (hj : j < c) :
    eliR (swp (gaN A n k c) c p) c c i j = swp (gaN A n k c) c p i j := by
  obtain ⟨ih1, _⟩ := gaN_shape (k := k) h hr c (by omega)
  unfold eliR
  split
  · rw [show swp (gaN A n k c) c p c j = 0 by unfold swp; rw [if_pos rfl]; exact ih1 p j hpn hj (by omega), gf.mul_zero, Nat.xor_zero]
  · rfl
/-- what is summed backwards -/
def bkN (U : Nat → Nat → Nat) (x : Nat → Nat) (n i d : Nat) : Nat := U i n ^^^ xs d fun j => mul (U i (i + 1 + j)) (x (i + 1 + j))
theorem bkN_lt {U : Nat → Nat → Nat} {x : Nat → Nat} {n i d : Nat} (hU : bytesP U n (n + 1)) (hi : i + 1 + d ≤ n) : bkN U x n i d < 256 :=
  xor_lt8 (hU i n (by omega) (by omega)) (xs_lt fun j hj => mul_lt _ _ (hU i _ (by omega) (by omega)))
theorem bkN_succ (U : Nat → Nat → Nat) (x : Nat → Nat) (n i d : Nat) : bkN U x n i (d + 1) = bkN U x n i d ^^^ mul (U i (i + 1 + d)) (x (i + 1 + d)) := by
  unfold bkN
  rw [Nat.xor_assoc]
  rfl
theorem bkN_congr {U : Nat → Nat → Nat} {x y : Nat → Nat} {n i d : Nat} (h : ∀ j, i < j → j < i + 1 + d → x j = y j) : bkN U x n i d = bkN U y n i d := by
  unfold bkN
  rw [xs_congr fun j hj => by rw [h (i + 1 + j) (by omega) (by omega)]]
theorem back_inv {A : Nat → Nat → Nat} {n k i : Nat} (h : bytesP A n n) (hr : (stR A n n).2 = n) (hk : k < n) (hi : i < n) :
    divN (bkN (gaN A n k n) (fun j => invN A n j k) n i (n - (i + 1))) (gaN A n k n i i) = invN A n i k := by
  have hU := gaN_bytes (k := k) h n
  obtain ⟨s1, s2⟩ := gaN_shape (k := k) h hr n (Nat.le_refl _)
  have hx : ∀ j, j < n → invN A n j k < 256 := fun j hj => invN_lt h j k hj hk
  have hkl := (kl_stR (colN_bytes (k := k) h) (fun j => if j < n then ofN (invN A n j k) else 1) n (by omega)).2 fun r hr1 => by
    show (sm (n + 1) fun j => toF (colN A n k) r j * (if j < n then ofN (invN A n j k) else 1)) = 0
    show (sm n fun j => toF (colN A n k) r j * (if j < n then ofN (invN A n j k) else 1)) + toF (colN A n k) r n * (if n < n then ofN (invN A n n k) else 1) = 0
    rw [if_neg (by omega), mul_one', sm_congr (g := fun j => toF A r j * ofN (invN A n j k)) fun j hj => by unfold toF colN; rw [if_pos hj, if_pos hj], inv_sol h hr hk r hr1]
    unfold toF colN
    rw [if_neg (by omega)]
    exact add_self _
  have h1 := hkl i hi
  change kl (n + 1) n (toF (gaN A n k n)) _ at hkl
  have h1 : (sm n fun j => toF (gaN A n k n) i j * (if j < n then ofN (invN A n j k) else 1)) + toF (gaN A n k n) i n * (if n < n then ofN (invN A n n k) else 1) = 0 := hkl i hi
  generalize gaN A n k n = U at *
  rw [if_neg (by omega), mul_one', sm_congr (g := fun j => toF U i j * ofN (invN A n j k)) fun j hj => by rw [if_pos hj]] at h1
  obtain ⟨d, hd⟩ : ∃ d, n = i + (1 + d) := ⟨n - (i + 1), by omega⟩
  have e0 : n - (i + 1) = d := by omega
  have h2 : sm n (fun j => toF U i j * ofN (invN A n j k)) = toF U i i * ofN (invN A n i k) + sm d fun j => toF U i (i + 1 + j) * ofN (invN A n (i + 1 + j) k) := by
    have q1 := sm_split i (fun j => toF U i j * ofN (invN A n j k)) (1 + d)
    rw [← hd] at q1
    have q2 := sm_split 1 (fun j => toF U i (i + j) * ofN (invN A n (i + j) k)) d
    rw [q1, q2, sm_nil fun j hj => by
      show toF U i j * _ = 0
      unfold toF
      rw [s1 i j hi (by omega) hj, ofN_zero, zero_mul'], zero_add]
    have q3 : sm 1 (fun j => toF U i (i + j) * ofN (invN A n (i + j) k)) = toF U i i * ofN (invN A n i k) := zero_add _
    rw [q3]
    congr 1
    exact sm_congr fun j _ => by rw [show i + (1 + j) = i + 1 + j by omega]
  rw [h2] at h1
  symm
  have hlt := bkN_lt (x := fun j => invN A n j k) hU (show i + 1 + d ≤ n by omega)
  rw [e0, ← div_unique _ _ _ (hx i hi) hlt (hU i i hi (by omega)) (s2 i hi)]
  refine ofN_inj (mul_lt _ _ (hx i hi)) hlt ?_
  rw [ofN_mul (hx i hi) (hU i i hi (by omega))]
  have hT : ∀ j, j < d → mul (U i (i + 1 + j)) (invN A n (i + 1 + j) k) < 256 := fun j hj => mul_lt _ _ (hU i _ hi (by omega))
  unfold bkN
  rw [ofN_xor (hU i n hi (by omega)) (xs_lt hT), ofN_xs hT, sm_congr (g := fun j => toF U i (i + 1 + j) * ofN (invN A n (i + 1 + j) k)) fun j hj => ofN_mul (hU i _ hi (by omega)) (hx _ (by omega))]
  rw [add_assoc] at h1
  rw [mul_comm']
  have h5 : ofN (U i i) * ofN (invN A n i k) = _ := add_eq_zero h1
  rw [h5, add_comm]
  rfl
end Go.Proofs.Ytjmjnodaohbpfaa.fld
