/-
  Plain laws of picks and their numbers.
-/
import Derived.Test.YtpknpmmcploacaaCombPick
namespace Go.Proofs.Ytpknpmmcploacaa.comb
open Go.RowKit Go.Proofs.Ytpknpmmcploacaa.kit
set_option linter.unusedVariables false

theorem ch_pascal : ∀ d, d < 13 → ∀ k, k < 12 → ch (d + 1) (k + 1) = ch d k + ch d (k + 1) := by decide
theorem ch_zero_succ : ∀ k, k < 13 → ch 0 (k + 1) = 0 := by decide
theorem pickL_ch : ∀ (d f k : Nat), d ≤ 12 → k ≤ 12 → (pickL d f k).length = ch d k
  | d, f, 0, _, _ => by rw [pickL_zero]; rfl
  | 0, f, k + 1, _, hk => by rw [ch_zero_succ k (by omega)]; rfl
  | d + 1, f, k + 1, hd, hk => by
    simp only [pickL, List.length_append, List.length_map]
    rw [pickL_ch d (f + 1) k (by omega) (by omega), pickL_ch d (f + 1) (k + 1) (by omega) hk, ch_pascal d (by omega) k (by omega)]

/-- the number of a pick of whole numbers, or none -/
def numF : Nat → Nat → List Int → Option Nat
  | _, _, [] => some 0
  | 0, _, _ :: _ => none
  | d + 1, f, x :: P => if x = (f : Int) then numF d (f + 1) P else if x < (f : Int) then none else (numF d (f + 1) (x :: P)).map (fun r => ch d P.length + r)
theorem numF_low (d f : Nat) (x : Int) (P : List Int) (h : x < (f : Int)) : numF d f (x :: P) = none := by
  cases d with
  | zero => rfl
  | succ d => unfold numF; rw [if_neg (by omega), if_pos h]
theorem numF_high : ∀ (d f : Nat) (x : Int) (P : List Int), (f : Int) + d ≤ x → numF d f (x :: P) = none
  | 0, _, _, _, _ => rfl
  | d + 1, f, x, P, h => by
    unfold numF
    rw [if_neg (by omega), if_neg (by omega), numF_high d (f + 1) x P (by push_cast; omega)]
    rfl
theorem numF_here (d f : Nat) (P : List Int) : numF (d + 1) f ((f : Int) :: P) = numF d (f + 1) P := by
  show (if (f : Int) = (f : Int) then _ else _) = _
  rw [if_pos rfl]
theorem numF_step (d f : Nat) (x : Int) (P : List Int) (h : (f : Int) < x) : numF (d + 1) f (x :: P) = (numF d (f + 1) (x :: P)).map (fun r => ch d P.length + r) := by
  show (if x = (f : Int) then _ else _) = _
  rw [if_neg (by omega), if_neg (by omega)]
theorem ch_over (n : Nat) : ∀ e, ch n (n + 1 + e) = 0
  | 0 => by show ch n n * (n - n) / (n + 1) = 0; simp
  | e + 1 => by show ch n (n + 1 + e) * (n - (n + 1 + e)) / (n + 1 + e + 1) = 0; rw [ch_over n e]; simp
/-- nothing is counted once the rest is too short -/
theorem numF_skip : ∀ (e d f : Nat) (P : List Int), e + d < P.length → numF (e + d + 1) f (((f + e : Nat) : Int) :: P) = numF (d + 1) (f + e) (((f + e : Nat) : Int) :: P)
  | 0, d, f, P, _ => by simp
  | e + 1, d, f, P, h => by
    rw [show e + 1 + d + 1 = (e + 1 + d) + 1 by omega, numF_step _ _ _ _ (by push_cast; omega)]
    have := numF_skip e d (f + 1) P (by omega)
    rw [show e + 1 + d = e + d + 1 by omega, show f + (e + 1) = f + 1 + e by omega, this]
    have hz : ch (e + d + 1) P.length = 0 := by
      obtain ⟨t, ht⟩ : ∃ t, P.length = e + d + 1 + 1 + t := ⟨P.length - (e + d + 2), by omega⟩
      rw [ht]; exact ch_over _ _
    rw [hz]
    cases numF (d + 1) (f + 1 + e) (((f + 1 + e : Nat) : Int) :: P) <;> simp
theorem numF_long : ∀ (d f : Nat) (P : List Int), d < P.length → numF d f P = none
  | _, _, [], h => absurd h (Nat.not_lt_zero _)
  | 0, f, x :: P, _ => rfl
  | d + 1, f, x :: P, h => by
    unfold numF
    rw [numF_long d (f + 1) P (by simp at h; omega)]
    by_cases hx : x = (f : Int)
    · rw [if_pos hx]
    · rw [if_neg hx]
      by_cases hl : x < (f : Int)
      · rw [if_pos hl]
      · rw [if_neg hl, numF_long d (f + 1) (x :: P) (by simp at h ⊢; omega)]; rfl
/-- what is left of a list from a place on -/
def lst (Z : Nat → Int) (m i : Nat) : List Int := (List.range (m - i)).map fun j => Z (i + j)
theorem lst_len (Z : Nat → Int) (m i : Nat) : (lst Z m i).length = m - i := by simp [lst]
theorem lst_end (Z : Nat → Int) (m : Nat) : lst Z m m = [] := by simp [lst]
theorem lst_cons (Z : Nat → Int) (m i : Nat) (h : i < m) : lst Z m i = Z i :: lst Z m (i + 1) := by
  unfold lst
  rw [show m - i = (m - (i + 1)) + 1 by omega, List.range_succ_eq_map, List.map_cons, List.map_map]
  congr 1
  apply List.map_congr_left
  intro j _
  simp [Nat.add_comm, Nat.add_left_comm]
/-- where a row lies in a list -/
def findI (P : List Int) : List (List Nat) → Option Nat
  | [] => none
  | l :: ls => if l.map (fun x : Nat => (x : Int)) = P then some 0 else (findI P ls).map (· + 1)
theorem findI_hd (P : List Int) (l : List Nat) (ls : List (List Nat)) : findI P (l :: ls) = if l.map (fun x : Nat => (x : Int)) = P then some 0 else (findI P ls).map (· + 1) := rfl
theorem findI_append (P : List Int) : ∀ (A B : List (List Nat)), findI P (A ++ B) = match findI P A with
    | some r => some r
    | none => (findI P B).map (fun r => A.length + r)
  | [], B => by
    show findI P B = (findI P B).map (fun r => 0 + r)
    cases findI P B <;> simp
  | l :: A, B => by
    have ih := findI_append P A B
    rw [List.cons_append, findI_hd, findI_hd, ih]
    by_cases h : l.map (fun x : Nat => (x : Int)) = P
    · rw [if_pos h, if_pos h]
    · rw [if_neg h, if_neg h]
      cases findI P A with
      | some r => rfl
      | none =>
        cases findI P B with
        | none => rfl
        | some r => simp; omega
theorem findI_cons (f : Nat) (x : Int) (P : List Int) : ∀ A : List (List Nat), findI (x :: P) (A.map (fun l => f :: l)) = if x = (f : Int) then findI P A else none
  | [] => by simp [findI]
  | l :: A => by
    have ih := findI_cons f x P A
    rw [List.map_cons, findI_hd, findI_hd, ih]
    by_cases hx : x = (f : Int)
    · subst hx
      simp
    · rw [if_neg hx, if_neg hx, if_neg (by simp; intro h; exact absurd h.symm hx)]
      rfl
theorem findI_nil_of : ∀ (P : List Int) (A : List (List Nat)), (∀ l ∈ A, l.map (fun x : Nat => (x : Int)) ≠ P) → findI P A = none
  | P, [], _ => rfl
  | P, l :: A, h => by
    rw [findI_hd, if_neg (h l (by simp)), findI_nil_of P A (fun q hq => h q (by simp [hq]))]
    rfl
theorem pickL_ge : ∀ (d f k : Nat), ∀ l ∈ pickL d f k, ∀ x ∈ l, f ≤ x
  | d, f, 0, l, h, x, hx => by rw [pickL_zero] at h; simp at h; subst h; simp at hx
  | 0, f, k + 1, l, h, _, _ => by simp [pickL] at h
  | d + 1, f, k + 1, l, h, x, hx => by
    simp only [pickL, List.mem_append, List.mem_map] at h
    rcases h with ⟨q, hq, rfl⟩ | h
    · rcases List.mem_cons.1 hx with rfl | hx
      · exact Nat.le_refl _
      · have := pickL_ge d (f + 1) k q hq x hx; omega
    · have := pickL_ge d (f + 1) (k + 1) l h x hx; omega
/-- the number is the place -/
theorem find_num : ∀ (d f : Nat) (P : List Int), d ≤ 12 → P.length ≤ 12 → findI P (pickL d f P.length) = numF d f P
  | d, f, [], _, _ => by
    show findI [] (pickL d f 0) = _
    rw [pickL_zero]; cases d <;> rfl
  | 0, f, x :: P, _, _ => rfl
  | d + 1, f, x :: P, hd, hP => by
    have hP' : P.length < 12 := by simp at hP; omega
    show findI (x :: P) (pickL (d + 1) f (P.length + 1)) = _
    simp only [pickL]
    rw [findI_append, findI_cons]
    have ih1 := find_num d (f + 1) P (by omega) (by omega)
    have ih2 := find_num d (f + 1) (x :: P) (by omega) hP
    by_cases hx : x = (f : Int)
    · subst hx
      rw [if_pos rfl, ih1, numF_here]
      cases hq : numF d (f + 1) P with
      | some r => rfl
      | none =>
        simp only []
        rw [findI_nil_of _ _ fun l hl he => by
          have := pickL_ge d (f + 1) (P.length + 1) l hl
          cases l with
          | nil => simp at he
          | cons y l =>
            simp at he
            have h1 := this y (by simp)
            omega]
        rfl
    · rw [if_neg hx]
      simp only []
      have e2 : findI (x :: P) (pickL d (f + 1) (P.length + 1)) = numF d (f + 1) (x :: P) := ih2
      rw [e2, List.length_map, pickL_ch d (f + 1) P.length (by omega) (by omega)]
      by_cases hlt : x < (f : Int)
      · rw [numF_low _ _ _ _ hlt, numF_low _ _ _ _ (by push_cast; omega)]; rfl
      · rw [numF_step _ _ _ _ (by omega)]
/-- the row at a place -/
theorem pick_here (d f k r : Nat) (hd : d ≤ 12) (hk : k < 12) (h : r < ch d k) : (pickL (d + 1) f (k + 1))[r]? = ((pickL d (f + 1) k)[r]?).map (fun l => f :: l) := by
  have hl := pickL_ch d (f + 1) k hd (by omega)
  simp only [pickL]
  rw [List.getElem?_append_left (by rw [List.length_map, hl]; exact h), List.getElem?_map]
theorem pick_next (d f k r : Nat) (hd : d ≤ 12) (hk : k < 12) (h : ch d k ≤ r) : (pickL (d + 1) f (k + 1))[r]? = (pickL d (f + 1) (k + 1))[r - ch d k]? := by
  have hl := pickL_ch d (f + 1) k hd (by omega)
  simp only [pickL]
  rw [List.getElem?_append_right (by rw [List.length_map, hl]; exact h), List.length_map, hl]
end Go.Proofs.Ytpknpmmcploacaa.comb
