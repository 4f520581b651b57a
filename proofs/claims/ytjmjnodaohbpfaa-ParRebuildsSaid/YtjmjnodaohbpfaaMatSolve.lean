/-
  Plain laws: the matrix beside the one that the program's steps leave holds what the determinants and the steps backwards answer.
-/
import Derived.Test.YtjmjnodaohbpfaaMatGauss
namespace Go.Proofs.Ytjmjnodaohbpfaa.fld
open Go.Proofs.Ytjmjnodaohbpfaa.gf Go.Proofs.Ytjmjnodaohbpfaa.mat
set_option linter.unusedVariables false
set_option linter.unusedSimpArgs false

/-- the sums over the bytes -/
def xs : Nat → (Nat → Nat) → Nat
  | 0, _ => 0
  | n + 1, f => xs n f ^^^ f n
theorem xs_lt : ∀ {n : Nat} {f : Nat → Nat}, (∀ i, i < n → f i < 256) → xs n f < 256
  | 0, _, _ => by unfold xs; omega
  | n + 1, f, h => xor_lt8 (xs_lt fun i hi => h i (by omega)) (h n (by omega))
theorem ofN_xs : ∀ {n : Nat} {f : Nat → Nat}, (∀ i, i < n → f i < 256) → ofN (xs n f) = sm n fun i => ofN (f i)
  | 0, _, _ => rfl
  | n + 1, f, h => by
    show ofN (xs n f ^^^ f n) = sm n _ + ofN (f n)
    rw [ofN_xor (xs_lt fun i hi => h i (by omega)) (h n (by omega)), ofN_xs fun i hi => h i (by omega)]
theorem xs_congr : ∀ {n : Nat} {f g : Nat → Nat}, (∀ i, i < n → f i = g i) → xs n f = xs n g
  | 0, _, _, _ => rfl
  | n + 1, f, g, h => by
    show xs n f ^^^ f n = xs n g ^^^ g n
    rw [xs_congr fun i hi => h i (by omega), h n (by omega)]
/-- the determinant over bytes -/
def mnrN (i : Nat) (M : Nat → Nat → Nat) : Nat → Nat → Nat := fun r c => M (if r < i then r else r + 1) (c + 1)
def detN : Nat → (Nat → Nat → Nat) → Nat
  | 0, _ => 1
  | n + 1, M => xs (n + 1) fun i => mul (M i 0) (detN n (mnrN i M))
theorem mnrN_bytes {n m i : Nat} {M : Nat → Nat → Nat} (h : bytesP M (n + 1) (m + 1)) : bytesP (mnrN i M) n m := fun r c hr hc => by
  unfold mnrN
  split
  · exact h _ _ (by omega) (by omega)
  · exact h _ _ (by omega) (by omega)
theorem detN_lt : ∀ (n : Nat) (M : Nat → Nat → Nat), bytesP M n n → detN n M < 256
  | 0, M, _ => by unfold detN; omega
  | n + 1, M, h => by
    unfold detN
    exact xs_lt fun i hi => mul_lt _ _ (h i 0 hi (by omega))
theorem ofN_det : ∀ (n : Nat) (M : Nat → Nat → Nat), bytesP M n n → ofN (detN n M) = det n (toF M)
  | 0, M, _ => rfl
  | n + 1, M, h => by
    unfold detN det
    rw [ofN_xs fun i hi => mul_lt _ _ (h i 0 hi (by omega))]
    refine sm_congr fun i hi => ?_
    rw [ofN_mul (h i 0 hi (by omega)) (detN_lt n _ (mnrN_bytes h)), ofN_det n _ (mnrN_bytes h)]
    rfl
/-! ### sums -/
theorem sm_split (n : Nat) (f : Nat → F) : ∀ m, sm (n + m) f = sm n f + sm m fun j => f (n + j)
  | 0 => (add_zero _).symm
  | m + 1 => by
    show sm (n + m) f + f (n + m) = _ + (sm m _ + f (n + m))
    rw [sm_split n f m, add_assoc]
theorem sm_nil {n : Nat} {f : Nat → F} (h : ∀ i, i < n → f i = 0) : sm n f = 0 := by rw [sm_congr h]; exact sm_zero n
theorem sm_one : ∀ {n : Nat} {f : Nat → F} {i : Nat}, i < n → (∀ j, j < n → j ≠ i → f j = 0) → sm n f = f i
  | 0, _, _, h, _ => absurd h (by omega)
  | n + 1, f, i, h, h0 => by
    show sm n f + f n = f i
    by_cases hi : i = n
    · rw [hi, sm_nil fun j hj => h0 j (by omega) (by omega), zero_add]
    · rw [sm_one (by omega) fun j hj h1 => h0 j (by omega) h1, h0 n (by omega) (by omega), add_zero]
/-! ### all columns have their row -/
theorem stP_le (Z0 : Nat → Nat → Nat) (n : Nat) : ∀ c d, (stP Z0 n (c + d)).2 ≤ (stP Z0 n c).2 + d
  | c, 0 => Nat.le_refl _
  | c, d + 1 => by
    have ih := stP_le Z0 n c d
    show (stP Z0 n (c + d + 1)).2 ≤ _
    cases hp : pv (stP Z0 n (c + d)).1 (c + d) (stP Z0 n (c + d)).2 (n - (stP Z0 n (c + d)).2) with
    | none => rw [stP_none hp]; omega
    | some p => rw [stP_some hp]; simp only; omega
theorem stP_le0 (Z0 : Nat → Nat → Nat) (n c : Nat) : (stP Z0 n c).2 ≤ c := by
  have := stP_le Z0 n 0 c
  rw [Nat.zero_add] at this
  have h0 : (stP Z0 n 0).2 = 0 := rfl
  omega
theorem stP_all {Z0 : Nat → Nat → Nat} {n : Nat} (h : (stP Z0 n n).2 = n) {c : Nat} (hc : c ≤ n) : (stP Z0 n c).2 = c := by
  have h1 := stP_le Z0 n c (n - c)
  rw [show c + (n - c) = n by omega, h] at h1
  have := stP_le0 Z0 n c
  omega
theorem stP_pv {Z0 : Nat → Nat → Nat} {n : Nat} (h : (stP Z0 n n).2 = n) {c : Nat} (hc : c < n) :
    ∃ p, pv (stP Z0 n c).1 c c (n - c) = some p ∧ c ≤ p ∧ p < n ∧ (stP Z0 n c).1 p c ≠ 0 ∧ stP Z0 n (c + 1) = (eliP (scaP (swp (stP Z0 n c).1 c p) c c) c c, c + 1) := by
  have e1 := stP_all h (Nat.le_of_lt hc)
  have e2 := stP_all h (show c + 1 ≤ n by omega)
  cases hp : pv (stP Z0 n c).1 c (stP Z0 n c).2 (n - (stP Z0 n c).2) with
  | none => rw [stP_none hp] at e2; omega
  | some p =>
    obtain ⟨g1, g2, g3⟩ := pv_some hp
    have e3 := stP_some hp
    rw [e1] at hp e3
    rw [e1] at g1 g2
    exact ⟨p, hp, g1, by omega, g3, e3⟩
/-- the shape: the columns that are done -/
theorem stP_shape {Z0 : Nat → Nat → Nat} {n m : Nat} (hb : bytesP Z0 n m) (hnm : n ≤ m) (h : (stP Z0 n n).2 = n) : ∀ c, c ≤ n → ∀ i k, i < n → k < c → (stP Z0 n c).1 i k = if i = k then 1 else 0
  | 0, _, _, _, _, hk => absurd hk (by omega)
  | c + 1, hc, i, k, hi, hk => by
    have ih := stP_shape hb hnm h c (by omega)
    obtain ⟨p, hp, g1, g2, g3, e⟩ := stP_pv h (show c < n by omega)
    obtain ⟨b1, _⟩ := stP_bytes hb c (by omega)
    rw [e]
    simp only
    generalize (stP Z0 n c).1 = Z at *
    have hb1 := swp_bytes b1 (a := c) (b := p) (by omega) g2
    have q0 : swp Z c p c c ≠ 0 := by unfold swp; rw [if_pos rfl]; exact g3
    have hs : ∀ j l, j < n → l < c → swp Z c p j l = if j = l then 1 else 0 := fun j l hj hl => by
      unfold swp
      split
      · rename_i h1; rw [ih p l g2 hl, if_neg (by omega), if_neg (by omega)]
      · split
        · rename_i h1 h2; rw [ih c l (by omega) hl, if_neg (by omega), if_neg (by omega)]
        · exact ih j l hj hl
    generalize swp Z c p = Y at *
    have hsc : ∀ l, l < c → scaP Y c c c l = 0 := fun l hl => by
      unfold scaP
      rw [if_pos rfl, hs c l (by omega) hl, if_neg (by omega), zero_mul]
    have hcc : scaP Y c c c c = 1 := by
      unfold scaP
      rw [if_pos rfl, mul_comm _ _ (hb1 c c (by omega) (by omega)) (divN_lt _ _), div_mul 1 _ (by omega) (hb1 c c (by omega) (by omega)) q0]
    have hne : ∀ j l, j ≠ c → scaP Y c c j l = Y j l := fun j l hj => by unfold scaP; rw [if_neg hj]
    unfold eliP
    by_cases hic : i = c
    · rw [if_pos hic, hic]
      by_cases hkc : k = c
      · rw [hkc, hcc, if_pos rfl]
      · rw [hsc k (by omega), if_neg (by omega)]
    · rw [if_neg hic, hne i c hic, hne i k hic]
      by_cases hkc : k = c
      · subst hkc
        rw [if_neg hic]
        split
        · assumption
        · rw [hcc, gf.mul_one, Nat.xor_self]
      · rw [hsc k (by omega), hs i k hi (by omega)]
        split
        · rfl
        · rw [gf.mul_zero, Nat.xor_zero]

/-! ### what is solved -/
/-- a matrix, the one beside it -/
def augN (A : Nat → Nat → Nat) (n : Nat) : Nat → Nat → Nat := fun i k => if k < n then A i k else if k = n + i then 1 else 0
theorem augN_bytes {A : Nat → Nat → Nat} {n : Nat} (h : bytesP A n n) : bytesP (augN A n) n (n + n) := fun i k hi hk => by
  unfold augN
  split
  · exact h i k hi (by assumption)
  · split <;> omega
/-- what the program leaves beside the one -/
def invN (A : Nat → Nat → Nat) (n : Nat) : Nat → Nat → Nat := fun i k => (stP (augN A n) n n).1 i (n + k)
def unN (k : Nat) : Nat → Nat := fun i => if i = k then 1 else 0
theorem invN_lt {A : Nat → Nat → Nat} {n : Nat} (h : bytesP A n n) : bytesP (invN A n) n n := fun i k hi hk => (stP_bytes (augN_bytes h) n (by omega)).1 i (n + k) hi (by omega)
/-- a full rank, beside the one too -/
theorem stP_aug {A : Nat → Nat → Nat} {n : Nat} (h : bytesP A n n) : (stP (augN A n) n n).2 = (stR A n n).2 := by
  have := (rank_same (Z0 := A) (Y0 := augN A n) (n := n) (m := n) h (fun i k hi hk => augN_bytes h i k hi (by omega)) (fun i k hi hk => by unfold augN; rw [if_pos hk]) n (Nat.le_refl _)).1
  exact this.symm
theorem one_F (b : Bool) : (1 : F) ≠ 0 := fun h => absurd (congrArg Subtype.val h) (by decide)
/-- a column of the answer is made into the one's column -/
theorem inv_sol {A : Nat → Nat → Nat} {n k : Nat} (h : bytesP A n n) (hr : (stR A n n).2 = n) (hk : k < n) : ∀ i, i < n → (sm n fun j => toF A i j * ofN (invN A n j k)) = ofN (unN k i) := by
  have hb := augN_bytes h
  have hr' : (stP (augN A n) n n).2 = n := by rw [stP_aug h]; exact hr
  have hsh := stP_shape hb (by omega) hr' n (Nat.le_refl _)
  have hkl := (kl_stP hb (fun j => if j < n then ofN (invN A n j k) else ofN (unN k (j - n))) n (by omega)).1 fun i hi => by
    unfold dt
    rw [sm_split, sm_one hi fun j hj hji => by
      show toF _ i j * _ = 0
      unfold toF
      rw [hsh i j hi hj, if_neg (Ne.symm hji), ofN_zero, zero_mul']]
    rw [sm_one hk fun j hj hjk => by
      show _ * (if n + j < n then _ else ofN (unN k (n + j - n))) = 0
      rw [if_neg (by omega), Nat.add_sub_cancel_left, unN, if_neg hjk, ofN_zero, mul_zero]]
    show toF _ i i * (if i < n then _ else _) + toF _ i (n + k) * (if n + k < n then _ else ofN (unN k (n + k - n))) = 0
    rw [if_pos hi, if_neg (by omega), Nat.add_sub_cancel_left, unN, if_pos rfl, ofN_one, mul_one']
    unfold toF
    rw [hsh i i hi hi, if_pos rfl, ofN_one, one_mul']
    exact add_self _
  intro i hi
  have := hkl i hi
  have e3 : (sm n fun j => toF (augN A n) i (n + j) * (if n + j < n then ofN (invN A n (n + j) k) else ofN (unN k (n + j - n)))) = toF (augN A n) i (n + i) * (if n + i < n then ofN (invN A n (n + i) k) else ofN (unN k (n + i - n))) := sm_one (f := fun j => toF (augN A n) i (n + j) * (if n + j < n then ofN (invN A n (n + j) k) else ofN (unN k (n + j - n)))) hi fun j hj hji => by
    show toF (augN A n) i (n + j) * (if n + j < n then ofN (invN A n (n + j) k) else ofN (unN k (n + j - n))) = 0
    unfold toF augN
    rw [if_neg (by omega), if_neg (by omega), ofN_zero, zero_mul']
  have e1 : (sm n fun j => toF (augN A n) i j * (if j < n then ofN (invN A n j k) else ofN (unN k (j - n)))) = sm n fun j => toF A i j * ofN (invN A n j k) := sm_congr fun j hj => by
    unfold toF augN
    rw [if_pos hj, if_pos hj]
  have e2 : toF (augN A n) i (n + i) * (if n + i < n then ofN (invN A n (n + i) k) else ofN (unN k (n + i - n))) = ofN (unN k i) := by
    unfold toF augN
    rw [if_neg (show ¬ n + i < n by omega), if_pos rfl, if_neg (show ¬ n + i < n by omega), ofN_one, one_mul', Nat.add_sub_cancel_left]
  unfold dt at this
  rw [sm_split] at this
  have h4 : (sm n fun j => toF (augN A n) i j * if j < n then ofN (invN A n j k) else ofN (unN k (j - n))) + (sm n fun j => toF (augN A n) i (n + j) * (if n + j < n then ofN (invN A n (n + j) k) else ofN (unN k (n + j - n)))) = 0 := this
  rw [e3, e2, e1] at h4
  exact add_eq_zero h4
/-! ### up to four rows -/
theorem det_id : ∀ (n : Nat), det n (fun i k => if i = k then 1 else 0) = 1
  | 0 => rfl
  | n + 1 => by
    unfold det
    rw [sm_one (i := 0) (by omega) fun j hj h => by
      show (if j = 0 then (1 : F) else 0) * _ = 0
      rw [if_neg h, zero_mul']]
    show (if 0 = 0 then (1 : F) else 0) * _ = 1
    rw [if_pos rfl, one_mul']
    refine Eq.trans (det_congr fun r c _ _ => ?_) (det_id n)
    unfold mnr
    rw [if_neg (by omega)]
    show (if r + 1 = c + 1 then (1 : F) else 0) = if r = c then 1 else 0
    by_cases h : r = c
    · rw [if_pos (by omega), if_pos h]
    · rw [if_neg (by omega), if_neg h]
theorem det_ne {A : Nat → Nat → Nat} {n : Nat} (hn : n ≤ 4) (h : bytesP A n n) (hr : (stR A n n).2 = n) : detN n A ≠ 0 := fun h0 => by
  have hr' : (stP A n n).2 = n := by rw [← (rank_same h h (fun _ _ _ _ => rfl) n (Nat.le_refl _)).1]; exact hr
  have hsh := stP_shape h (Nat.le_refl _) hr' n (Nat.le_refl _)
  refine det_stP hn h n (Nat.le_refl _) ?_ ?_
  · rw [det_congr (N := fun i k => if i = k then 1 else 0) fun r c hr hc => by unfold toF; rw [hsh r c hr hc]; split <;> rfl, det_id]
    exact one_F true
  · rw [← ofN_det n A h, h0]; rfl
def stcN (M : Nat → Nat → Nat) (c : Nat) (u : Nat → Nat) : Nat → Nat → Nat := fun r k => if k = c then u r else M r k
theorem stcN_bytes {A : Nat → Nat → Nat} {n i k : Nat} (h : bytesP A n n) : bytesP (stcN A i (unN k)) n n := fun r c hr hc => by
  unfold stcN unN
  split
  · split <;> omega
  · exact h r c hr hc
/-- Cramer's quotient is the answer -/
theorem cramer_inv {A : Nat → Nat → Nat} {n i k : Nat} (hn : n ≤ 4) (h : bytesP A n n) (hr : (stR A n n).2 = n) (hi : i < n) (hk : k < n) : divN (detN n (stcN A i (unN k))) (detN n A) = invN A n i k := by
  symm
  rw [← div_unique _ _ _ (invN_lt h i k hi hk) (detN_lt n _ (stcN_bytes h)) (detN_lt n _ h) (det_ne hn h hr)]
  refine ofN_inj (mul_lt _ _ (invN_lt h i k hi hk)) (detN_lt n _ (stcN_bytes h)) ?_
  rw [ofN_mul (invN_lt h i k hi hk) (detN_lt n _ h), ofN_det n _ h, ofN_det n _ (stcN_bytes h)]
  rw [← cramer hn (toF A) (fun j => ofN (invN A n j k)) hi]
  refine det_congr fun r c hr1 hc => ?_
  unfold stc
  by_cases h1 : c = i
  · rw [if_pos h1]
    show (sm n fun j => ofN (invN A n j k) * toF A r j) = _
    have := inv_sol h hr hk r hr1
    rw [sm_congr (g := fun j => toF A r j * ofN (invN A n j k)) fun j _ => mul_comm' _ _, this]
    unfold toF stcN
    rw [if_pos h1]
  · rw [if_neg h1]
    unfold toF stcN
    rw [if_neg h1]
end Go.Proofs.Ytjmjnodaohbpfaa.fld
