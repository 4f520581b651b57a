/-
  Plain laws of hexadecimal letters read back.
-/
import Derived.Test.YtaommipcdcncnaaDoorDeskPlain
namespace Go.Proofs.YtaommipcdcncnaaDoor.desk
open Go.Proofs.YtaommipcdcncnaaDoor.kit
set_option linter.unusedVariables false
/-- a hexadecimal letter, and its value -/
def hdB (c : UInt8) : Bool := (decide (48 ≤ c.toNat) && decide (c.toNat ≤ 57)) || (decide (97 ≤ c.toNat) && decide (c.toNat ≤ 102))
def hdV (c : UInt8) : Nat := if c.toNat ≤ 57 then c.toNat - 48 else c.toNat - 87
theorem hd_fin : ∀ x : Fin 16, hdB (hexD x.val) = true ∧ hdV (hexD x.val) = x.val := by decide
theorem hd_of (x : Nat) (h : x < 16) : hdB (hexD x) = true ∧ hdV (hexD x) = x := hd_fin ⟨x, h⟩
theorem hd_iff (c : UInt8) : hdB c = true ↔ (48 ≤ c.toNat ∧ c.toNat ≤ 57) ∨ (97 ≤ c.toNat ∧ c.toNat ≤ 102) := by simp [hdB]
theorem hd_lt {c : UInt8} (h : hdB c = true) : hdV c < 16 := by
  rw [hd_iff] at h
  unfold hdV
  split <;> omega
theorem hd_back {c : UInt8} (h : hdB c = true) : hexD (hdV c) = c := by
  rw [hd_iff] at h
  apply UInt8.toNat_inj.1
  unfold hexD hdV
  split
  · rw [if_pos (by omega), UInt8.toNat_ofNat']
    omega
  · rw [if_neg (by omega), UInt8.toNat_ofNat']
    omega
theorem hexN_all (f : Nat → Nat) (hf : ∀ i, f i < 256) : ∀ n, (hexN f n).all hdB = true
  | 0 => rfl
  | n + 1 => by
    show (hexN f n ++ [hexD (f n / 16), hexD (f n % 16)]).all hdB = true
    have h := hf n
    rw [List.all_append, hexN_all f hf n]
    simp [(hd_of (f n / 16) (by omega)).1, (hd_of (f n % 16) (by omega)).1]
theorem hexN_congr {f g : Nat → Nat} : ∀ n, (∀ i, i < n → f i = g i) → hexN f n = hexN g n
  | 0, _ => rfl
  | n + 1, h => by
    show hexN f n ++ _ = hexN g n ++ _
    rw [hexN_congr n (fun i hi => h i (by omega)), h n (by omega)]
theorem hexN_inj {f g : Nat → Nat} (hf : ∀ i, f i < 256) (hg : ∀ i, g i < 256) : ∀ n, hexN f n = hexN g n → ∀ i, i < n → f i = g i
  | 0, _, i, hi => absurd hi (Nat.not_lt_zero i)
  | n + 1, h, i, hi => by
    have h2 : hexN f n ++ [hexD (f n / 16), hexD (f n % 16)] = hexN g n ++ [hexD (g n / 16), hexD (g n % 16)] := h
    obtain ⟨h3, h4⟩ := List.append_inj h2 (by rw [hexN_len, hexN_len])
    by_cases e : i = n
    · subst e
      have hfi := hf i
      have hgi := hg i
      injection h4 with h5 h6
      injection h6 with h6 _
      have e1 := congrArg hdV h5
      have e2 := congrArg hdV h6
      rw [(hd_of _ (by omega)).2, (hd_of _ (by omega)).2] at e1 e2
      omega
    · exact hexN_inj hf hg n h3 i (by omega)
/-- what the readers of hexadecimal letters answer -/
def HexP (s : Tx) (f : Nat → Nat) (n : Nat) (b : Bool) : Prop := ((∀ i, f i < 256) ∧ n ≤ s.length) ∧ (b = true → hexT f n = s) ∧ (b = false → ∀ (g : Nat → Nat) (m : Nat), (∀ i, g i < 256) → hexT g m ≠ s)
theorem HexP.one {s : Tx} {f g : Nat → Nat} {n m : Nat} {b b' : Bool} (h : HexP s f n b) (h' : HexP s g m b') : b = b' := by
  cases b <;> cases b'
  · rfl
  · exact absurd (h'.2.1 rfl) (h.2.2 rfl g m h'.1.1)
  · exact absurd (h.2.1 rfl) (h'.2.2 rfl f n h.1.1)
  · rfl
theorem hexT_inj {f g : Nat → Nat} {n m : Nat} (hf : ∀ i, f i < 256) (hg : ∀ i, g i < 256) (h : hexT f n = hexT g m) : n = m ∧ ∀ i, i < n → f i = g i := by
  have dash : ∀ (g : Nat → Nat) (m : Nat), (∀ i, g i < 256) → 0 < m → hexN g m ≠ [45] := fun g m hg hm e => by
    have := congrArg List.length e
    rw [hexN_len] at this
    simp at this
    omega
  unfold hexT at h
  by_cases hn : n = 0 <;> by_cases hm : m = 0
  · exact ⟨by omega, fun i hi => by omega⟩
  · rw [if_pos hn, if_neg hm] at h
    exact absurd h.symm (dash g m hg (by omega))
  · rw [if_neg hn, if_pos hm] at h
    exact absurd h (dash f n hf (by omega))
  · rw [if_neg hn, if_neg hm] at h
    have hl := congrArg List.length h
    rw [hexN_len, hexN_len] at hl
    obtain rfl : n = m := by omega
    exact ⟨rfl, hexN_inj hf hg n h⟩
theorem HexP.dash (f : Nat → Nat) (hf : ∀ i, f i < 256) : HexP [45] f 0 true := ⟨⟨hf, Nat.zero_le _⟩, fun _ => rfl, fun h => absurd h (by decide)⟩
theorem HexP.no {s : Tx} {f : Nat → Nat} {n : Nat} (hf : ∀ i, f i < 256) (hn : n ≤ s.length) (h : ∀ (g : Nat → Nat) (m : Nat), (∀ i, g i < 256) → hexT g m ≠ s) : HexP s f n false := ⟨⟨hf, hn⟩, fun h => absurd h (by decide), fun _ => h⟩
theorem HexP.odd {s : Tx} {f : Nat → Nat} {n : Nat} (hf : ∀ i, f i < 256) (hn : n ≤ s.length) (hd : s ≠ [45]) (h : s.length = 0 ∨ s.length % 2 = 1) : HexP s f n false := HexP.no hf hn fun g m hg e => by
  unfold hexT at e
  split at e
  · exact hd e.symm
  · have := congrArg List.length e
    rw [hexN_len] at this
    omega
theorem HexP.digit {s : Tx} {f : Nat → Nat} {n : Nat} (hf : ∀ i, f i < 256) (hn : n ≤ s.length) (hd : s ≠ [45]) {i : Nat} (hi : i < s.length) (h : hdB (s.getD i 0) = false) : HexP s f n false := HexP.no hf hn fun g m hg e => by
  unfold hexT at e
  split at e
  · exact hd e.symm
  · have ha := hexN_all g hg m
    rw [e, List.all_eq_true] at ha
    have h2 := ha (s.getD i 0) (by rw [List.getD, List.getElem?_eq_getElem hi]; exact List.getElem_mem hi)
    rw [h] at h2
    cases h2
theorem HexP.good {s : Tx} {f : Nat → Nat} {n : Nat} (hf : ∀ i, f i < 256) (h0 : 0 < n) (h : hexN f n = s) : HexP s f n true := by
  have hl := congrArg List.length h
  rw [hexN_len] at hl
  exact ⟨⟨hf, by omega⟩, fun _ => by rw [hexT_ne h0]; exact h, fun h => absurd h (by decide)⟩
/-- one more pair of letters -/
theorem hex_pair {s : Tx} {f : Nat → Nat} {j : Nat} (hj : 2 * j + 1 < s.length) (h : hexN f j = s.take (2 * j)) (ha : hdB (s.getD (2 * j) 0) = true) (hb : hdB (s.getD (2 * j + 1) 0) = true) (g : Nat → Nat) (hg : ∀ i, i < j → g i = f i) (hgj : g j = 16 * hdV (s.getD (2 * j) 0) + hdV (s.getD (2 * j + 1) 0)) : hexN g (j + 1) = s.take (2 * (j + 1)) := by
  have h1 := hd_lt ha
  have h2 := hd_lt hb
  show hexN g j ++ [hexD (g j / 16), hexD (g j % 16)] = _
  rw [hexN_congr j hg, h, hgj, show (16 * hdV (s.getD (2 * j) 0) + hdV (s.getD (2 * j + 1) 0)) / 16 = hdV (s.getD (2 * j) 0) by omega, show (16 * hdV (s.getD (2 * j) 0) + hdV (s.getD (2 * j + 1) 0)) % 16 = hdV (s.getD (2 * j + 1) 0) by omega, hd_back ha, hd_back hb, show 2 * (j + 1) = 2 * j + 1 + 1 by omega, List.take_add_one, List.take_add_one, List.getElem?_eq_getElem hj, List.getElem?_eq_getElem (show 2 * j < s.length by omega)]
  rw [List.getD, List.getD, List.getElem?_eq_getElem hj, List.getElem?_eq_getElem (show 2 * j < s.length by omega), Option.toList_some, Option.toList_some, List.append_assoc]
  rfl
end Go.Proofs.YtaommipcdcncnaaDoor.desk
