/-
  Plain laws: steps on rows keep what a matrix makes of a list; what is left when every column has its row.
-/
import Derived.Test.YtjmjnodaohbpfaaMatField
import Derived.Test.YtjmjnodaohbpfaaMatElim
namespace Go.Proofs.Ytjmjnodaohbpfaa.fld
open Go.Proofs.Ytjmjnodaohbpfaa.gf Go.Proofs.Ytjmjnodaohbpfaa.mat
set_option linter.unusedVariables false

def ofN (x : Nat) : F := ⟨x % 256, Nat.mod_lt _ (by omega)⟩
theorem ofN_val {x : Nat} (h : x < 256) : (ofN x).1 = x := Nat.mod_eq_of_lt h
theorem ofN_of {x : Nat} {a : F} (h : x = a.1) : ofN x = a := F.ext (by rw [h]; exact Nat.mod_eq_of_lt a.2)
theorem ofN_xor {a b : Nat} (ha : a < 256) (hb : b < 256) : ofN (a ^^^ b) = ofN a + ofN b := ofN_of (by rw [val_add, ofN_val ha, ofN_val hb])
theorem ofN_mul {a b : Nat} (ha : a < 256) (hb : b < 256) : ofN (mul a b) = ofN a * ofN b := ofN_of (by rw [val_mul, ofN_val ha, ofN_val hb])
theorem ofN_inj {a b : Nat} (ha : a < 256) (hb : b < 256) (h : ofN a = ofN b) : a = b := by
  have := congrArg Subtype.val h
  rwa [ofN_val ha, ofN_val hb] at this
theorem ofN_zero : ofN 0 = 0 := rfl
theorem ofN_one : ofN 1 = 1 := rfl
def toF (Z : Nat → Nat → Nat) : Nat → Nat → F := fun i k => ofN (Z i k)

/-- what a row makes of a list -/
def dt (M : Nat) (r y : Nat → F) : F := sm M fun k => r k * y k
theorem dt_congr {M : Nat} {r s y : Nat → F} (h : ∀ k, k < M → r k = s k) : dt M r y = dt M s y := sm_congr fun k hk => by rw [h k hk]
theorem dt_add (M : Nat) (r s y : Nat → F) : dt M (fun k => r k + s k) y = dt M r y + dt M s y := by
  unfold dt
  rw [← sm_add]
  exact sm_congr fun k _ => add_mul _ _ _
theorem dt_mul (M : Nat) (a : F) (r y : Nat → F) : dt M (fun k => a * r k) y = a * dt M r y := by
  unfold dt
  rw [← sm_mul]
  exact sm_congr fun k _ => mul_assoc' _ _ _
/-- all rows make nought of a list -/
def kl (M n : Nat) (Z : Nat → Nat → F) (y : Nat → F) : Prop := ∀ i, i < n → dt M (Z i) y = 0
theorem kl_congr {M n : Nat} {Z Y : Nat → Nat → F} {y : Nat → F} (h : ∀ i k, i < n → k < M → Z i k = Y i k) : kl M n Z y ↔ kl M n Y y :=
  ⟨fun g i hi => by rw [← g i hi]; exact (dt_congr fun k hk => h i k hi hk).symm, fun g i hi => by rw [← g i hi]; exact dt_congr fun k hk => h i k hi hk⟩
theorem kl_swap {M n a b : Nat} (ha : a < n) (hb : b < n) (Z : Nat → Nat → F) (y : Nat → F) : kl M n (swr Z a b) y ↔ kl M n Z y := by
  have e : ∀ i, i < n → ∃ j, j < n ∧ swr Z a b i = Z j := fun i hi => by
    unfold swr
    by_cases h1 : i = a
    · exact ⟨b, hb, by rw [if_pos h1]⟩
    · by_cases h2 : i = b
      · exact ⟨a, ha, by rw [if_neg h1, if_pos h2]⟩
      · exact ⟨i, hi, by rw [if_neg h1, if_neg h2]⟩
  have e' : ∀ i, i < n → ∃ j, j < n ∧ Z i = swr Z a b j := fun i hi => by
    by_cases h1 : i = b
    · exact ⟨a, ha, by unfold swr; rw [if_pos rfl, h1]⟩
    · by_cases h2 : i = a
      · refine ⟨b, hb, ?_⟩
        unfold swr
        by_cases h3 : b = a
        · omega
        · rw [if_neg h3, if_pos rfl, h2]
      · exact ⟨i, hi, by unfold swr; rw [if_neg h2, if_neg h1]⟩
  constructor
  · intro g i hi
    obtain ⟨j, hj, h⟩ := e' i hi
    rw [h]; exact g j hj
  · intro g i hi
    obtain ⟨j, hj, h⟩ := e i hi
    rw [h]; exact g j hj
theorem kl_scale {M n t : Nat} (ht : t < n) (s : F) (hs : s ≠ 0) (Z : Nat → Nat → F) (y : Nat → F) : kl M n (str Z t fun k => s * Z t k) y ↔ kl M n Z y := by
  have e1 : ∀ i, i ≠ t → (str Z t fun k => s * Z t k) i = Z i := fun i h => by funext k; unfold str; rw [if_neg h]
  have e2 : (str Z t fun k => s * Z t k) t = fun k => s * Z t k := by funext k; unfold str; rw [if_pos rfl]
  constructor
  · intro g i hi
    by_cases h : i = t
    · subst h
      have := g i hi
      rw [e2, dt_mul] at this
      rcases Classical.em (dt M (Z i) y = 0) with h0 | h0
      · exact h0
      · exact absurd this (mul_ne_zero hs h0)
    · have := g i hi
      rwa [e1 i h] at this
  · intro g i hi
    by_cases h : i = t
    · subst h
      rw [e2, dt_mul, g i hi, mul_zero]
    · rw [e1 i h]; exact g i hi
/-- multiples of row t are added to the others -/
def gst (Z : Nat → Nat → F) (t : Nat) (f : Nat → F) : Nat → Nat → F := fun i k => if i = t then Z t k else Z i k + f i * Z t k
theorem kl_step {M n t : Nat} (ht : t < n) (f : Nat → F) (Z : Nat → Nat → F) (y : Nat → F) : kl M n (gst Z t f) y ↔ kl M n Z y := by
  have e1 : gst Z t f t = Z t := by funext k; unfold gst; rw [if_pos rfl]
  have e2 : ∀ i, i ≠ t → gst Z t f i = fun k => Z i k + f i * Z t k := fun i h => by funext k; unfold gst; rw [if_neg h]
  constructor
  · intro g i hi
    have ht0 := g t ht
    rw [e1] at ht0
    by_cases h : i = t
    · subst h; exact ht0
    · have := g i hi
      rw [e2 i h, dt_add, dt_mul, ht0, mul_zero, add_zero] at this
      exact this
  · intro g i hi
    by_cases h : i = t
    · subst h; rw [e1]; exact g i hi
    · rw [e2 i h, dt_add, dt_mul, g t ht, mul_zero, add_zero]; exact g i hi
theorem det_gst {n t : Nat} (hn : n ≤ 4) (ht : t < n) (f : Nat → F) (Z : Nat → Nat → F) : det n (gst Z t f) = det n Z := by
  have key : ∀ m, m ≤ n → det n (fun i k => if i < m ∧ i ≠ t then Z i k + f i * Z t k else Z i k) = det n Z := fun m hm => by
    induction m with
    | zero => exact det_congr fun r c _ _ => by rw [if_neg (by omega)]
    | succ m ih =>
      rw [← ih (by omega)]
      by_cases h : m = t
      · exact det_congr fun r c _ _ => by
          by_cases h1 : r < m ∧ r ≠ t
          · rw [if_pos h1, if_pos ⟨by omega, h1.2⟩]
          · rw [if_neg h1, if_neg (by omega)]
      · rw [← det_row_step hn h (show m < n by omega) ht (fun i k => if i < m ∧ i ≠ t then Z i k + f i * Z t k else Z i k) (f m)]
        refine det_congr fun r c _ _ => ?_
        unfold str
        by_cases h1 : r = m
        · subst h1
          rw [if_pos ⟨by omega, h⟩, if_pos rfl]
          show _ = (if r < r ∧ r ≠ t then Z r c + f r * Z t c else Z r c) + f r * (if t < r ∧ t ≠ t then Z t c + f t * Z t c else Z t c)
          rw [if_neg (by omega), if_neg (by omega)]
        · rw [if_neg h1]
          show _ = (if r < m ∧ r ≠ t then Z r c + f r * Z t c else Z r c)
          by_cases h2 : r < m ∧ r ≠ t
          · rw [if_pos h2, if_pos ⟨by omega, h2.2⟩]
          · rw [if_neg h2, if_neg (by omega)]
  rw [← key n (Nat.le_refl _)]
  refine det_congr fun r c hr _ => ?_
  unfold gst
  by_cases h : r = t
  · rw [if_pos h, if_neg (by omega), h]
  · rw [if_neg h, if_pos ⟨hr, h⟩]
theorem det_scale {n t : Nat} (ht : t < n) (s : F) (Z : Nat → Nat → F) : det n (str Z t fun k => s * Z t k) = s * det n Z := by
  rw [det_row_mul n t Z s _ ht, str_self]

/-! ### the two texts' columns -/
theorem toF_swp (Z : Nat → Nat → Nat) (a b : Nat) : toF (swp Z a b) = swr (toF Z) a b := by
  funext i k
  unfold toF swp swr
  split
  · rfl
  · split <;> rfl
theorem toF_sca {Y : Nat → Nat → Nat} {n m c t : Nat} (hb : bytesP Y n m) (ht : t < n) (hc : c < m) : ∀ i k, i < n → k < m → toF (scaP Y c t) i k = str (toF Y) t (fun k => ofN (divN 1 (Y t c)) * toF Y t k) i k := fun i k hi hk => by
  unfold toF scaP str
  by_cases h : i = t
  · rw [if_pos h, if_pos h, ofN_mul (hb t k ht hk) (divN_lt _ _), mul_comm']
  · rw [if_neg h, if_neg h]
theorem toF_eliP {Y : Nat → Nat → Nat} {n m c t : Nat} (hb : bytesP Y n m) (ht : t < n) (hc : c < m) : ∀ i k, i < n → k < m → toF (eliP Y c t) i k = gst (toF Y) t (fun i => toF Y i c) i k := fun i k hi hk => by
  unfold toF eliP gst
  by_cases h : i = t
  · rw [if_pos h, if_pos h, h]
  · rw [if_neg h, if_neg h]
    show _ = ofN (Y i k) + ofN (Y i c) * ofN (Y t k)
    by_cases h0 : Y i c = 0
    · rw [if_pos h0, h0, ofN_zero, zero_mul', add_zero]
    · rw [if_neg h0, ofN_xor (hb i k hi hk) (mul_lt _ _ (hb i c hi hc)), ofN_mul (hb i c hi hc) (hb t k ht hk)]
theorem toF_eliR {Y : Nat → Nat → Nat} {n m c t : Nat} (hb : bytesP Y n m) (ht : t < n) (hc : c < m) : ∀ i k, i < n → k < m → toF (eliR Y c t) i k = gst (toF Y) t (fun i => if t < i then ofN (divN (Y i c) (Y t c)) else 0) i k := fun i k hi hk => by
  unfold toF eliR gst
  by_cases h : i = t
  · rw [if_neg (by omega), if_pos h, h]
  · rw [if_neg h]
    show _ = ofN (Y i k) + (if t < i then ofN (divN (Y i c) (Y t c)) else 0) * ofN (Y t k)
    by_cases h1 : t < i
    · rw [if_pos h1, if_pos h1, ofN_xor (hb i k hi hk) (mul_lt _ _ (divN_lt _ _)), ofN_mul (divN_lt _ _) (hb t k ht hk)]
    · rw [if_neg h1, if_neg h1, zero_mul', add_zero]
theorem inv_ne {a : Nat} (ha : a < 256) (a0 : a ≠ 0) : ofN (divN 1 a) ≠ 0 := fun h => by
  have h1 : ofN (mul (divN 1 a) a) = 0 := by rw [ofN_mul (divN_lt _ _) ha, h, zero_mul']
  rw [div_mul 1 a (by omega) ha a0] at h1
  have := congrArg Subtype.val h1
  exact absurd this (by decide)
/-- one column of the program keeps what the matrix makes nought of -/
theorem kl_stP {Z0 : Nat → Nat → Nat} {n M : Nat} (hb : bytesP Z0 n M) (y : Nat → F) : ∀ c, c ≤ M → (kl M n (toF (stP Z0 n c).1) y ↔ kl M n (toF Z0) y)
  | 0, _ => Iff.rfl
  | c + 1, hc => by
    have ih := kl_stP hb y c (by omega)
    obtain ⟨h1, h2⟩ := stP_bytes hb c (by omega)
    cases hp : pv (stP Z0 n c).1 c (stP Z0 n c).2 (n - (stP Z0 n c).2) with
    | none => rw [stP_none hp]; exact ih
    | some p =>
      obtain ⟨g1, g2, g3⟩ := pv_some hp
      rw [stP_some hp]
      generalize (stP Z0 n c).2 = t at *
      generalize (stP Z0 n c).1 = Z at *
      have htn : t < n := by omega
      have hb1 := swp_bytes h1 (a := t) (b := p) htn (by omega)
      have hb2 := scaP_bytes (c := c) hb1 htn
      have q0 : swp Z t p t c ≠ 0 := by unfold swp; rw [if_pos rfl]; exact g3
      rw [← ih, kl_congr (toF_eliP hb2 htn (show c < M by omega)), kl_step htn, kl_congr (toF_sca hb1 htn (show c < M by omega)), kl_scale htn _ (inv_ne (hb1 _ _ htn (by omega)) q0), toF_swp, kl_swap htn (by omega)]
theorem kl_stR {Z0 : Nat → Nat → Nat} {n M : Nat} (hb : bytesP Z0 n M) (y : Nat → F) : ∀ c, c ≤ M → (kl M n (toF (stR Z0 n c).1) y ↔ kl M n (toF Z0) y)
  | 0, _ => Iff.rfl
  | c + 1, hc => by
    have ih := kl_stR hb y c (by omega)
    obtain ⟨h1, h2⟩ := stR_bytes hb c
    cases hp : pv (stR Z0 n c).1 c (stR Z0 n c).2 (n - (stR Z0 n c).2) with
    | none => rw [stR_none hp]; exact ih
    | some p =>
      obtain ⟨g1, g2, g3⟩ := pv_some hp
      rw [stR_some hp]
      generalize (stR Z0 n c).2 = t at *
      generalize (stR Z0 n c).1 = Z at *
      have htn : t < n := by omega
      have hb1 := swp_bytes h1 (a := t) (b := p) htn (by omega)
      rw [← ih, kl_congr (toF_eliR hb1 htn (show c < M by omega)), kl_step htn, toF_swp, kl_swap htn (by omega)]
/-- a determinant that is not nought stays so -/
theorem det_stP {Z0 : Nat → Nat → Nat} {n : Nat} (hn : n ≤ 4) (hb : bytesP Z0 n n) : ∀ c, c ≤ n → (det n (toF (stP Z0 n c).1) ≠ 0 → det n (toF Z0) ≠ 0)
  | 0, _ => fun h => h
  | c + 1, hc => by
    have ih := det_stP hn hb c (by omega)
    obtain ⟨h1, h2⟩ := stP_bytes hb c (by omega)
    cases hp : pv (stP Z0 n c).1 c (stP Z0 n c).2 (n - (stP Z0 n c).2) with
    | none => rw [stP_none hp]; exact ih
    | some p =>
      obtain ⟨g1, g2, g3⟩ := pv_some hp
      rw [stP_some hp]
      generalize (stP Z0 n c).2 = t at *
      generalize (stP Z0 n c).1 = Z at *
      have htn : t < n := by omega
      have hb1 := swp_bytes h1 (a := t) (b := p) htn (by omega)
      have hb2 := scaP_bytes (c := c) hb1 htn
      intro h
      apply ih
      intro h0
      apply h
      rw [det_congr (toF_eliP hb2 htn (show c < n by omega)), det_gst hn htn, det_congr (toF_sca hb1 htn (show c < n by omega)), det_scale htn, toF_swp, det_swap hn htn (by omega), h0, mul_zero]
end Go.Proofs.Ytjmjnodaohbpfaa.fld
