/-
  Plain laws of numbers read back: the numeral of a number is read as that number.
-/
import Derived.Test.YtaommipcdcncnaaDoorDeskPlain
import Derived.Test.YtaommipcdcncnaaDoorDeskDeci
import Derived.Lib.AtoiAllCases
namespace Go.Proofs.YtaommipcdcncnaaDoor.desk
open Go.Proofs.YtaommipcdcncnaaDoor.kit
set_option linter.unusedVariables false
/-- what a numeral's bytes spell -/
def valD (l : Tx) : Nat := l.foldl (fun a c => a * 10 + (c.toNat - 48)) 0
def digB (c : UInt8) : Bool := decide (48 ≤ c.toNat) && decide (c.toNat ≤ 57)
theorem valD_more (l : Tx) (c : UInt8) : valD (l ++ [c]) = valD l * 10 + (c.toNat - 48) := by simp [valD]
theorem dig_nat {i : Nat} (h : i < 10) : (UInt8.ofNat (48 + i)).toNat = 48 + i := by
  rw [UInt8.toNat_ofNat']
  omega
theorem dec_small {u : Nat} (h : u < 10) : Lib.decDigits u = [UInt8.ofNat (48 + u)] := by rw [Lib.decDigits, dif_pos h]
theorem dec_big {u : Nat} (h : ¬ u < 10) : Lib.decDigits u = Lib.decDigits (u / 10) ++ [UInt8.ofNat (48 + u % 10)] := by rw [Lib.decDigits, dif_neg h]
theorem dec_val : ∀ (k u : Nat), u ≤ k → valD (Lib.decDigits u) = u
  | k, u, hk => by
    by_cases h : u < 10
    · rw [dec_small h]
      show 0 * 10 + ((UInt8.ofNat (48 + u)).toNat - 48) = u
      rw [dig_nat h]
      omega
    · rw [dec_big h, valD_more, dig_nat (by omega)]
      match k, hk with
      | 0, hk => omega
      | k + 1, hk =>
        rw [dec_val k (u / 10) (by omega)]
        omega
theorem dec_dig : ∀ (k u : Nat), u ≤ k → (Lib.decDigits u).all digB = true
  | k, u, hk => by
    by_cases h : u < 10
    · rw [dec_small h]
      simp [digB]
      omega
    · rw [dec_big h, List.all_append]
      match k, hk with
      | 0, hk => omega
      | k + 1, hk =>
        rw [dec_dig k (u / 10) (by omega)]
        have : u % 10 < 10 := by omega
        simp [digB]
        omega
theorem dec_ne (u : Nat) : Lib.decDigits u ≠ [] := by
  by_cases h : u < 10
  · rw [dec_small h]; simp
  · rw [dec_big h]; simp
theorem parse_dec : ∀ (k u : Nat) (r : Tx), u ≤ k → u < 18446744073709551616 → Lib.parseUint10 0 (Lib.decDigits u ++ r) = Lib.parseUint10 u r
  | k, u, r, hk, hu => by
    by_cases h : u < 10
    · rw [dec_small h]
      show Lib.parseUint10 0 (UInt8.ofNat (48 + u) :: r) = _
      rw [Lib.parseUint10, dig_nat h, if_pos (by omega), if_neg (by omega), if_neg (by omega)]
      congr 1
      omega
    · rw [dec_big h, List.append_assoc]
      match k, hk with
      | 0, hk => omega
      | k + 1, hk =>
        have hd : u % 10 < 10 := by omega
        rw [parse_dec k (u / 10) _ (by omega) (by omega)]
        show Lib.parseUint10 (u / 10) (UInt8.ofNat (48 + u % 10) :: r) = _
        rw [Lib.parseUint10, dig_nat hd, if_pos (by omega), if_neg (by omega), if_neg (by omega)]
        congr 1
        omega
theorem parse_mag (u : Nat) (hu : u < 18446744073709551616) : Lib.parseMag (Lib.decDigits u) = .ok u := by
  unfold Lib.parseMag
  rw [if_neg (dec_ne u)]
  have h := parse_dec u u [] (Nat.le_refl _) hu
  rw [List.append_nil] at h
  rw [h]
  rfl
/-- a numeral's parts -/
theorem itoa_parts (m : Int) : (m < 0 ∧ Lib.itoa m = 45 :: Lib.decDigits m.natAbs) ∨ (0 ≤ m ∧ Lib.itoa m = Lib.decDigits m.natAbs) := by
  unfold Lib.itoa
  by_cases h : m < 0
  · exact .inl ⟨h, by rw [if_pos h]⟩
  · refine .inr ⟨by omega, ?_⟩
    rw [if_neg h]
    congr 1
    omega
theorem dec_head {u : Nat} {c : UInt8} {r : Tx} (h : Lib.decDigits u = c :: r) : 48 ≤ c.toNat ∧ c.toNat ≤ 57 := by
  have := dec_dig u u (Nat.le_refl _)
  rw [h, List.all_cons, Bool.and_eq_true] at this
  have h2 := this.1
  simp [digB] at h2
  exact h2
theorem dec_len {u : Nat} (h : u ≤ 9223372036854775808) : (Lib.decDigits u).length ≤ 19 := by
  have h1 := itoa_len 18 (u : Int) (by omega) (by
    have : ((10 : Int) ^ (18 + 1)) = 10000000000000000000 := by decide
    omega)
  rcases itoa_parts (u : Int) with ⟨h2, _⟩ | ⟨_, h2⟩
  · omega
  · rw [h2] at h1
    simpa using h1
theorem atoi_itoa (m : Int) (h0 : -9223372036854775808 ≤ m) (h1 : m ≤ 9223372036854775807) : Lib.atoiAll (Lib.itoa m) = .ok m := by
  rcases itoa_parts m with ⟨hm, h⟩ | ⟨hm, h⟩
  · rw [h, Lib.atoiAll_minus, parse_mag _ (by omega)]
    simp only [Lib.signed]
    rw [if_neg (by omega)]
    congr 1
    omega
  · rw [h]
    obtain ⟨c, r, hcr⟩ : ∃ c r, Lib.decDigits m.natAbs = c :: r := by
      cases hd : Lib.decDigits m.natAbs with
      | nil => exact absurd hd (dec_ne _)
      | cons c r => exact ⟨c, r, rfl⟩
    have hc := dec_head hcr
    rw [hcr, Lib.atoiAll_plain c r (by omega) (by omega), ← hcr, parse_mag _ (by omega)]
    simp only [Lib.signless]
    rw [if_neg (by omega)]
    congr 1
    omega
/-- the answers of the two readers of numbers -/
def NumP (s : Tx) (n : Int) (b : Bool) : Prop := (-9223372036854775808 ≤ n ∧ n ≤ 9223372036854775807) ∧ (b = true → Lib.itoa n = s) ∧ (b = false → ∀ m : Int, -9223372036854775808 ≤ m → m ≤ 9223372036854775807 → Lib.itoa m ≠ s)
theorem NumP.one {s : Tx} {n n' : Int} {b b' : Bool} (h : NumP s n b) (h' : NumP s n' b') : b = b' := by
  cases b <;> cases b'
  · rfl
  · exact absurd (h'.2.1 rfl) (h.2.2 rfl n' h'.1.1 h'.1.2)
  · exact absurd (h.2.1 rfl) (h'.2.2 rfl n h.1.1 h.1.2)
  · rfl
theorem itoa_inj {m n : Int} (h0 : -9223372036854775808 ≤ m) (h1 : m ≤ 9223372036854775807) (h2 : -9223372036854775808 ≤ n) (h3 : n ≤ 9223372036854775807) (h : Lib.itoa m = Lib.itoa n) : m = n := by
  have e := atoi_itoa m h0 h1
  rw [h, atoi_itoa n h2 h3] at e
  injection e with e
  exact e.symm
theorem NumP.atoi {s : Tx} {v : Int} (h : Lib.atoiAll s = .ok v) : NumP s v (Lib.itoa v == s) := by
  refine ⟨Lib.atoiAll_bounds h, fun hb => by simpa using hb, fun hb m h0 h1 hm => ?_⟩
  rw [← hm, atoi_itoa m h0 h1] at h
  injection h with h
  subst h
  rw [hm] at hb
  simp at hb
theorem NumP.bad {s : Tx} {v : Int} (hv : -9223372036854775808 ≤ v ∧ v ≤ 9223372036854775807) (h : ∀ x, Lib.atoiAll s ≠ .ok x) : NumP s v false :=
  ⟨hv, fun hb => absurd hb (by decide), fun _ m h0 h1 hm => h m (by rw [← hm]; exact atoi_itoa m h0 h1)⟩
/-- the reference's way: sign, digits, bounds -/
def tailD (s : Tx) : Tx := if s.head? = some 45 then s.drop 1 else s
theorem itoa_tail {m : Int} {s : Tx} (h0 : -9223372036854775808 ≤ m) (h1 : m ≤ 9223372036854775807) (h : Lib.itoa m = s) : tailD s = Lib.decDigits m.natAbs ∧ (s.head? = some 45 ↔ m < 0) := by
  rcases itoa_parts m with ⟨hm, e⟩ | ⟨hm, e⟩
  · rw [e] at h
    subst h
    exact ⟨by simp [tailD], by simp [hm]⟩
  · rw [e] at h
    subst h
    have hne : (Lib.decDigits m.natAbs).head? ≠ some 45 := fun hh => by
      cases hd : Lib.decDigits m.natAbs with
      | nil => exact dec_ne _ hd
      | cons c r =>
        rw [hd] at hh
        have := dec_head hd
        simp at hh
        rw [hh] at this
        exact absurd this.1 (by decide)
    refine ⟨by unfold tailD; rw [if_neg hne], ⟨fun hh => absurd hh hne, fun hh => by omega⟩⟩
theorem NumP.len {s : Tx} (h : (tailD s).length = 0 ∨ 19 < (tailD s).length) : NumP s 0 false := by
  refine ⟨by decide, fun hb => absurd hb (by decide), fun _ m h0 h1 hm => ?_⟩
  obtain ⟨ht, _⟩ := itoa_tail h0 h1 hm
  rw [ht] at h
  have h2 := dec_len (u := m.natAbs) (by omega)
  rcases h with h | h
  · exact dec_ne _ (List.length_eq_zero_iff.1 h)
  · omega
theorem NumP.digit {s : Tx} (h : (tailD s).all digB = false) : NumP s 0 false := by
  refine ⟨by decide, fun hb => absurd hb (by decide), fun _ m h0 h1 hm => ?_⟩
  obtain ⟨ht, _⟩ := itoa_tail h0 h1 hm
  rw [ht, dec_dig _ _ (Nat.le_refl _)] at h
  cases h
theorem NumP.out {s : Tx} (h : (¬ s.head? = some 45 ∧ 9223372036854775807 < valD (tailD s)) ∨ (s.head? = some 45 ∧ 9223372036854775808 < valD (tailD s))) : NumP s 0 false := by
  refine ⟨by decide, fun hb => absurd hb (by decide), fun _ m h0 h1 hm => ?_⟩
  obtain ⟨ht, hs⟩ := itoa_tail h0 h1 hm
  rw [ht, dec_val _ _ (Nat.le_refl _), hs] at h
  omega
theorem NumP.fin {s : Tx} {x : Int} (hx : -9223372036854775808 ≤ x ∧ x ≤ 9223372036854775807) (h : x = if s.head? = some 45 then -(valD (tailD s) : Int) else (valD (tailD s) : Int)) : NumP s x (Lib.itoa x == s) := by
  refine ⟨hx, fun hb => by simpa using hb, fun hb m h0 h1 hm => ?_⟩
  obtain ⟨ht, hs⟩ := itoa_tail h0 h1 hm
  rw [ht, dec_val _ _ (Nat.le_refl _)] at h
  have : x = m := by
    rw [h]
    split
    · rename_i h2
      have := hs.1 h2
      omega
    · rename_i h2
      have : ¬ m < 0 := fun h3 => h2 (hs.2 h3)
      omega
  rw [this, hm] at hb
  simp at hb
theorem valD_lt : ∀ (k : Nat) (l : Tx), l.length = k → l.all digB = true → valD l < 10 ^ k
  | 0, l, hl, _ => by
    rw [List.length_eq_zero_iff.1 hl]
    decide
  | k + 1, l, hl, ha => by
    obtain ⟨l', c, rfl⟩ : ∃ l' c, l = l' ++ [c] := ⟨l.dropLast, l.getLast (by intro h; subst h; simp at hl), (List.dropLast_concat_getLast _).symm⟩
    rw [List.all_append, Bool.and_eq_true] at ha
    have hk : l'.length = k := by simpa using hl
    have h1 := valD_lt k l' hk ha.1
    have hc : digB c = true := by simpa using ha.2
    simp [digB] at hc
    rw [valD_more, Nat.pow_succ]
    omega
end Go.Proofs.YtaommipcdcncnaaDoor.desk
