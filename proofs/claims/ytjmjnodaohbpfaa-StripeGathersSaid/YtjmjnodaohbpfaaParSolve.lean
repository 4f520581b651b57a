/-
  Plain laws: a determinant that is not 0 has a full rank; the inverse times a list is Cramer's quotient; the factors of the parity columns can be inverted.
-/
import Derived.Test.YtjmjnodaohbpfaaMatPlain
namespace Go.Proofs.Ytjmjnodaohbpfaa.fld
open Go.Proofs.Ytjmjnodaohbpfaa.gf Go.Proofs.Ytjmjnodaohbpfaa.mat
set_option linter.unusedVariables false
set_option linter.unusedSimpArgs false

theorem pv_nil {Z : Nat → Nat → Nat} {c : Nat} : ∀ {k t : Nat}, pv Z c t k = none → ∀ i, t ≤ i → i < t + k → Z i c = 0
  | 0, t, _, i, h1, h2 => absurd h2 (by omega)
  | k + 1, t, h, i, h1, h2 => by
    by_cases hz : Z t c = 0
    · by_cases hi : i = t
      · rw [hi]; exact hz
      · rw [pv_next hz] at h
        exact pv_nil h i (by omega) (by omega)
    · have : pv Z c t (k + 1) = some t := if_neg hz
      rw [this] at h
      cases h
theorem stP_allN {Z0 : Nat → Nat → Nat} {n N : Nat} (h : (stP Z0 n N).2 = N) {c : Nat} (hc : c ≤ N) : (stP Z0 n c).2 = c := by
  have h1 := stP_le Z0 n c (N - c)
  rw [show c + (N - c) = N by omega, h] at h1
  have := stP_le0 Z0 n c
  omega
theorem stP_pvN {Z0 : Nat → Nat → Nat} {n N : Nat} (hN : N ≤ n) (h : (stP Z0 n N).2 = N) {c : Nat} (hc : c < N) :
    ∃ p, pv (stP Z0 n c).1 c c (n - c) = some p ∧ c ≤ p ∧ p < n ∧ (stP Z0 n c).1 p c ≠ 0 ∧ stP Z0 n (c + 1) = (eliP (scaP (swp (stP Z0 n c).1 c p) c c) c c, c + 1) := by
  have e1 := stP_allN h (Nat.le_of_lt hc)
  have e2 := stP_allN h (show c + 1 ≤ N by omega)
  cases hp : pv (stP Z0 n c).1 c (stP Z0 n c).2 (n - (stP Z0 n c).2) with
  | none => rw [stP_none hp] at e2; omega
  | some p =>
    obtain ⟨g1, g2, g3⟩ := pv_some hp
    have e3 := stP_some hp
    rw [e1] at hp e3
    rw [e1] at g1 g2
    exact ⟨p, hp, g1, by omega, g3, e3⟩
theorem stP_shapeN {Z0 : Nat → Nat → Nat} {n m N : Nat} (hb : bytesP Z0 n m) (hN : N ≤ n) (hnm : n ≤ m) (h : (stP Z0 n N).2 = N) : ∀ c, c ≤ N → ∀ i k, i < n → k < c → (stP Z0 n c).1 i k = if i = k then 1 else 0
  | 0, _, _, _, _, hk => absurd hk (by omega)
  | c + 1, hc, i, k, hi, hk => by
    have ih := stP_shapeN hb hN hnm h c (by omega)
    obtain ⟨p, hp, g1, g2, g3, e⟩ := stP_pvN hN h (show c < N by omega)
    obtain ⟨b1, _⟩ := stP_bytes hb c (by omega)
    rw [e]
    simp only
    generalize (stP Z0 n c).1 = Z at *
    have hb1 := swp_bytes b1 (a := c) (b := p) (by omega) g2
    have q0 : swp Z c p c c ≠ 0 := by unfold swp; rw [if_pos rfl]; exact g3
    have hs : ∀ j l, j < n → l < c → swp Z c p j l = if j = l then 1 else 0 := fun j l hj hl => by
      unfold swp
      split
      · rename_i h1; rw [ih p l g2 hl, if_neg (by omega), if_neg (by omega)]
      · split
        · rename_i h1 h2; rw [ih c l (by omega) hl, if_neg (by omega), if_neg (by omega)]
        · exact ih j l hj hl
    generalize swp Z c p = Y at *
    have hsc : ∀ l, l < c → scaP Y c c c l = 0 := fun l hl => by
      unfold scaP
      rw [if_pos rfl, hs c l (by omega) hl, if_neg (by omega), zero_mul]
    have hcc : scaP Y c c c c = 1 := by
      unfold scaP
      rw [if_pos rfl, mul_comm _ _ (hb1 c c (by omega) (by omega)) (divN_lt _ _), div_mul 1 _ (by omega) (hb1 c c (by omega) (by omega)) q0]
    have hne : ∀ j l, j ≠ c → scaP Y c c j l = Y j l := fun j l hj => by unfold scaP; rw [if_neg hj]
    unfold eliP
    by_cases hic : i = c
    · rw [if_pos hic, hic]
      by_cases hkc : k = c
      · rw [hkc, hcc, if_pos rfl]
      · rw [hsc k (by omega), if_neg (by omega)]
    · rw [if_neg hic, hne i c hic, hne i k hic]
      by_cases hkc : k = c
      · subst hkc
        rw [if_neg hic]
        split
        · assumption
        · rw [hcc, gf.mul_one, Nat.xor_self]
      · rw [hsc k (by omega), hs i k hi (by omega)]
        split
        · rfl
        · rw [gf.mul_zero, Nat.xor_zero]
theorem ofN_ite (b : Prop) [Decidable b] : ofN (if b then 1 else 0) = if b then (1 : F) else 0 := by split <;> rfl
/-- the first column without its row gives a list that the matrix makes into noughts -/
theorem null_of {A : Nat → Nat → Nat} {n N : Nat} (h : bytesP A n n) (hN : N < n) (h1 : (stP A n N).2 = N) (h2 : (stP A n (N + 1)).2 ≠ N + 1) :
    ∃ y : Nat → F, y N = 1 ∧ ∀ i, i < n → dt n (toF A i) y = 0 := by
  have hsh := stP_shapeN h (Nat.le_of_lt hN) (Nat.le_refl n) h1 N (Nat.le_refl _)
  have hz : ∀ i, N ≤ i → i < n → (stP A n N).1 i N = 0 := by
    cases hp : pv (stP A n N).1 N (stP A n N).2 (n - (stP A n N).2) with
    | none =>
      rw [h1] at hp
      exact fun i a b => pv_nil hp i a (by omega)
    | some p => rw [stP_some hp] at h2; simp only [h1] at h2; exact absurd rfl h2
  obtain ⟨y, y1, y2, y3⟩ : ∃ y : Nat → F, (∀ k, k < N → y k = ofN ((stP A n N).1 k N)) ∧ y N = 1 ∧ ∀ k, N < k → y k = 0 :=
    ⟨fun k => if k < N then ofN ((stP A n N).1 k N) else if k = N then 1 else 0, fun k hk => if_pos hk, by simp, fun k hk => by
      show (if k < N then _ else if k = N then (1 : F) else 0) = 0
      rw [if_neg (by omega), if_neg (by omega)]⟩
  refine ⟨y, y2, (kl_stP h y N (Nat.le_of_lt hN)).1 ?_⟩
  intro i hi
  unfold dt toF
  by_cases hiN : i < N
  · rw [sm_congr (g := fun k => (if k = i then ofN ((stP A n N).1 i N) else 0) + (if k = N then ofN ((stP A n N).1 i N) else 0)) fun k hk => ?_, sm_add, sm_one (i := i) hi, sm_one (i := N) hN]
    · rw [if_pos rfl, if_pos rfl, add_self]
    · intro j _ hne; rw [if_neg hne]
    · intro j _ hne; rw [if_neg hne]
    · by_cases hkN : k < N
      · rw [y1 k hkN, hsh i k hi hkN, ofN_ite]
        by_cases hik : i = k
        · rw [if_pos hik, if_pos hik.symm, if_neg (by omega), one_mul', add_zero, hik]
        · rw [if_neg hik, if_neg (fun e => hik e.symm), if_neg (by omega), zero_mul', add_zero]
      · by_cases hkn : k = N
        · rw [hkn, if_neg (by omega), if_pos rfl, y2, mul_one', zero_add]
        · rw [y3 k (by omega), if_neg (by omega), if_neg hkn, mul_zero, add_zero]
  · refine sm_nil fun k hk => ?_
    by_cases hkN : k < N
    · rw [hsh i k hi hkN, if_neg (by omega)]
      exact zero_mul' _
    · by_cases hkn : k = N
      · rw [hkn, hz i (by omega) hi]
        exact zero_mul' _
      · rw [y3 k (by omega), mul_zero]
theorem rank_of_det {A : Nat → Nat → Nat} {n : Nat} (hn : n ≤ 4) (h : bytesP A n n) (hd : detN n A ≠ 0) : (stR A n n).2 = n := by
  rw [(rank_same h h (fun _ _ _ _ => rfl) n (Nat.le_refl _)).1]
  have key : ∀ c, c ≤ n → (stP A n c).2 = c := by
    intro c
    induction c with
    | zero => intro _; rfl
    | succ c ih =>
      intro hc
      have h1 := ih (by omega)
      by_cases h2 : (stP A n (c + 1)).2 = c + 1
      · exact h2
      · obtain ⟨y, hy1, hy⟩ := null_of h (by omega) h1 h2
        exfalso
        have hcr := cramer hn (toF A) y (i := c) (by omega)
        rw [hy1, one_mul', ← ofN_det n A h] at hcr
        rw [det_congr (N := stc (toF A) c fun _ => 0) fun r k hr hk => ?_, det_col_zero n c _ (by omega)] at hcr
        · apply hd
          refine ofN_inj (detN_lt n A h) (by omega) ?_
          rw [← hcr]; rfl
        · unfold stc
          split
          · show (sm n fun j => y j * toF A r j) = 0
            rw [sm_congr (g := fun j => toF A r j * y j) fun j _ => mul_comm' _ _]
            exact hy r hr
          · rfl
  exact key n (Nat.le_refl _)
/-! ### the inverse times a list -/
theorem sm_swap (n : Nat) (f : Nat → Nat → F) : ∀ m, (sm n fun i => sm m fun j => f i j) = sm m fun j => sm n fun i => f i j
  | 0 => sm_zero n
  | m + 1 => by
    show (sm n fun i => (sm m fun j => f i j) + f i m) = (sm m fun j => sm n fun i => f i j) + sm n fun i => f i m
    rw [sm_add, sm_swap n f m]
theorem mul_sm (n : Nat) (s : F) (f : Nat → F) : s * sm n f = sm n fun i => s * f i := (sm_mul n s f).symm
theorem sm_muls (n : Nat) (s : F) (f : Nat → F) : sm n f * s = sm n fun i => f i * s := by
  rw [mul_comm', mul_sm]
  exact sm_congr fun i _ => mul_comm' _ _
/-- what the inverse makes of a list -/
def invV (A : Nat → Nat → Nat) (n : Nat) (v : Nat → Nat) : Nat → Nat := fun i => xs n fun b => mul (invN A n i b) (v b)
theorem invV_lt {A : Nat → Nat → Nat} {n i : Nat} {v : Nat → Nat} (h : bytesP A n n) (hv : ∀ r, r < n → v r < 256) (hi : i < n) : invV A n v i < 256 :=
  xs_lt fun b hb => mul_lt _ _ (invN_lt h i b hi hb)
theorem invV_sol {A : Nat → Nat → Nat} {n : Nat} {v : Nat → Nat} (h : bytesP A n n) (hr : (stR A n n).2 = n) (hv : ∀ r, r < n → v r < 256) : ∀ i, i < n → (sm n fun j => toF A i j * ofN (invV A n v j)) = ofN (v i) := by
  intro i hi
  have e1 : ∀ j, j < n → toF A i j * ofN (invV A n v j) = sm n fun b => (toF A i j * ofN (invN A n j b)) * ofN (v b) := fun j hj => by
    unfold invV
    rw [ofN_xs fun b hb => mul_lt _ _ (invN_lt h j b hj hb), mul_sm]
    exact sm_congr fun b hb => by rw [ofN_mul (invN_lt h j b hj hb) (hv b hb), mul_assoc']
  rw [sm_congr e1, sm_swap]
  have e2 : ∀ b, b < n → (sm n fun j => (toF A i j * ofN (invN A n j b)) * ofN (v b)) = if b = i then ofN (v i) else 0 := fun b hb => by
    rw [← sm_muls, inv_sol h hr hb i hi]
    unfold unN
    by_cases hbi : b = i
    · rw [if_pos hbi.symm, if_pos hbi, hbi]; exact one_mul' _
    · rw [if_neg (fun e => hbi e.symm), if_neg hbi]; exact zero_mul' _
  rw [sm_congr e2, sm_one (i := i) hi fun j _ hne => if_neg hne, if_pos rfl]
theorem stcN_bytes' {A : Nat → Nat → Nat} {n i : Nat} {v : Nat → Nat} (h : bytesP A n n) (hv : ∀ r, r < n → v r < 256) : bytesP (stcN A i v) n n := fun r c hr hc => by
  unfold stcN
  split
  · exact hv r hr
  · exact h r c hr hc
theorem cramer_vec {A : Nat → Nat → Nat} {n i : Nat} {v : Nat → Nat} (hn : n ≤ 4) (h : bytesP A n n) (hr : (stR A n n).2 = n) (hv : ∀ r, r < n → v r < 256) (hi : i < n) : divN (detN n (stcN A i v)) (detN n A) = invV A n v i := by
  symm
  rw [← div_unique _ _ _ (invV_lt h hv hi) (detN_lt n _ (stcN_bytes' h hv)) (detN_lt n _ h) (det_ne hn h hr)]
  refine ofN_inj (mul_lt _ _ (invV_lt h hv hi)) (detN_lt n _ (stcN_bytes' h hv)) ?_
  rw [ofN_mul (invV_lt h hv hi) (detN_lt n _ h), ofN_det n _ h, ofN_det n _ (stcN_bytes' h hv)]
  rw [← cramer hn (toF A) (fun j => ofN (invV A n v j)) hi]
  refine det_congr fun r c hr1 hc => ?_
  unfold stc
  by_cases h1 : c = i
  · rw [if_pos h1]
    show (sm n fun j => ofN (invV A n v j) * toF A r j) = _
    have := invV_sol h hr hv r hr1
    rw [sm_congr (g := fun j => toF A r j * ofN (invV A n v j)) fun j _ => mul_comm' _ _, this]
    unfold toF stcN
    rw [if_pos h1]
  · rw [if_neg h1]
    unfold toF stcN
    rw [if_neg h1]
/-! ### the factors -/
/-- the factor of data column i in parity column j -/
def fcP (j i : Nat) : Nat := expT ((i * j) % 255)
theorem fcP_lt (j i : Nat) : fcP j i < 256 := (exp_facts _ (Nat.mod_lt _ (by omega))).1
def m2 (a b i k : Nat) : Nat → Nat → Nat := fun r c => fcP (if r = 0 then a else b) (if c = 0 then i else k)
def m3 (i k l : Nat) : Nat → Nat → Nat := fun r c => fcP r (if c = 0 then i else if c = 1 then k else l)
theorem chk1 : (upTo 3 fun a => upTo 12 fun i => decide (fcP a i ≠ 0)) = true := by decide +kernel
theorem chk2 : (upTo 3 fun a => upTo 3 fun b => decide (b ≤ a) || upTo 12 fun i => upTo 12 fun k => decide (k ≤ i) || decide (detN 2 (m2 a b i k) ≠ 0)) = true := by decide +kernel
theorem chk3 : (upTo 12 fun i => upTo 12 fun k => decide (k ≤ i) || upTo 12 fun l => decide (l ≤ k) || decide (detN 3 (m3 i k l) ≠ 0)) = true := by decide +kernel
theorem xs_one (f : Nat → Nat) : xs 1 f = f 0 := by show 0 ^^^ f 0 = f 0; exact Nat.zero_xor _
theorem detN_congr : ∀ {n : Nat} {M N : Nat → Nat → Nat}, (∀ r c, r < n → c < n → M r c = N r c) → detN n M = detN n N
  | 0, _, _, _ => rfl
  | n + 1, M, N, h => by
    unfold detN
    refine xs_congr fun i hi => ?_
    rw [h i 0 hi (by omega), detN_congr (n := n) (N := mnrN i N) fun r c hr hc => ?_]
    unfold mnrN
    split
    · exact h _ _ (by omega) (by omega)
    · exact h _ _ (by omega) (by omega)
theorem fac_det {U H : Nat → Nat} {n : Nat} (hn1 : 1 ≤ n) (hn : n ≤ 3) (hU : ∀ a, a < n → U a < 3) (hUi : ∀ a, a + 1 < n → U a < U (a + 1)) (hH : ∀ b, b < n → H b < 12) (hHi : ∀ b, b + 1 < n → H b < H (b + 1)) :
    detN n (fun a b => fcP (U a) (H b)) ≠ 0 := by
  match n, hn1, hn with
  | 1, _, _ =>
    have h := upTo_out (upTo_out chk1 (U 0) (hU 0 (by omega))) (H 0) (hH 0 (by omega))
    have h2 : fcP (U 0) (H 0) ≠ 0 := by simpa using h
    unfold detN
    rw [xs_one]
    show mul (fcP (U 0) (H 0)) 1 ≠ 0
    rw [gf.mul_one]
    exact h2
  | 2, _, _ =>
    have h := upTo_out (upTo_out chk2 (U 0) (hU 0 (by omega))) (U 1) (hU 1 (by omega))
    have hu : U 0 < U 1 := hUi 0 (by omega)
    have hh : H 0 < H 1 := hHi 0 (by omega)
    rw [decide_eq_false (by omega), Bool.false_or] at h
    have h2 := upTo_out (upTo_out h (H 0) (hH 0 (by omega))) (H 1) (hH 1 (by omega))
    rw [decide_eq_false (by omega), Bool.false_or] at h2
    have h3 : detN 2 (m2 (U 0) (U 1) (H 0) (H 1)) ≠ 0 := by simpa using h2
    rw [detN_congr (N := m2 (U 0) (U 1) (H 0) (H 1)) fun r c hr hc => ?_]
    · exact h3
    · unfold m2
      obtain rfl | rfl : r = 0 ∨ r = 1 := by omega
      all_goals (obtain rfl | rfl : c = 0 ∨ c = 1 := by omega)
      all_goals rfl
  | 3, _, _ =>
    have u0 : U 0 = 0 := by have a1 : U 0 < U 1 := hUi 0 (by omega); have a2 : U 1 < U 2 := hUi 1 (by omega); have := hU 2 (by omega); omega
    have u1 : U 1 = 1 := by have a1 : U 0 < U 1 := hUi 0 (by omega); have a2 : U 1 < U 2 := hUi 1 (by omega); have := hU 2 (by omega); omega
    have u2 : U 2 = 2 := by have a1 : U 0 < U 1 := hUi 0 (by omega); have a2 : U 1 < U 2 := hUi 1 (by omega); have := hU 2 (by omega); omega
    have h := upTo_out (upTo_out chk3 (H 0) (hH 0 (by omega))) (H 1) (hH 1 (by omega))
    have hh0 : H 0 < H 1 := hHi 0 (by omega)
    have hh1 : H 1 < H 2 := hHi 1 (by omega)
    rw [decide_eq_false (by omega), Bool.false_or] at h
    have h2 := upTo_out h (H 2) (hH 2 (by omega))
    rw [decide_eq_false (by omega), Bool.false_or] at h2
    have h3 : detN 3 (m3 (H 0) (H 1) (H 2)) ≠ 0 := by simpa using h2
    rw [detN_congr (N := m3 (H 0) (H 1) (H 2)) fun r c hr hc => ?_]
    · exact h3
    · unfold m3
      obtain rfl | rfl | rfl : r = 0 ∨ r = 1 ∨ r = 2 := by omega
      all_goals (obtain rfl | rfl | rfl : c = 0 ∨ c = 1 ∨ c = 2 := by omega)
      all_goals simp [u0, u1, u2]
theorem fac_rank {U H : Nat → Nat} {n : Nat} (hn1 : 1 ≤ n) (hn : n ≤ 3) (hU : ∀ a, a < n → U a < 3) (hUi : ∀ a, a + 1 < n → U a < U (a + 1)) (hH : ∀ b, b < n → H b < 12) (hHi : ∀ b, b + 1 < n → H b < H (b + 1)) :
    (stR (fun a b => fcP (U a) (H b)) n n).2 = n := rank_of_det (by omega) (fun a b _ _ => fcP_lt _ _) (fac_det hn1 hn hU hUi hH hHi)
end Go.Proofs.Ytjmjnodaohbpfaa.fld
