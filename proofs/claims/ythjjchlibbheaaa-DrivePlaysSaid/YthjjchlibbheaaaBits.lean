/-
  Bits of int (64 bits): and, or, xor of numbers that are not below 0; the test by a mask of ones.
-/
import Derived.Laws.BitsAllLaws
import Derived.Laws.BitsLemmas
namespace Go.Proofs.Ythjjchlibbheaaa.kit
theorem ofInt_i64 (a : Nat) (ha : a < 9223372036854775808) : (BitVec.ofInt 64 (a : Int)).toNat = a := by
  rw [BitVec.ofInt_natCast, BitVec.toNat_ofNat]; exact Nat.mod_eq_of_lt (by omega)
theorem i64_and_nat (a b : Nat) (ha : a < 9223372036854775808) (hb : b < 9223372036854775808) : bits .and .i64 (a : Int) (b : Int) = ((a &&& b : Nat) : Int) := by
  have hx : a &&& b < 2 ^ 63 := Nat.and_lt_two_pow _ (by omega)
  show IntKind.i64.wrap ((BitVec.ofInt 64 (a : Int) &&& BitVec.ofInt 64 (b : Int)).toNat : Int) = _
  rw [BitVec.toNat_and, ofInt_i64 a ha, ofInt_i64 b hb, IntKind.wrap_i64]
  omega
theorem i64_or_nat (a b : Nat) (ha : a < 9223372036854775808) (hb : b < 9223372036854775808) : bits .or .i64 (a : Int) (b : Int) = ((a ||| b : Nat) : Int) := by
  have hx : a ||| b < 2 ^ 63 := Nat.or_lt_two_pow (by omega) (by omega)
  show IntKind.i64.wrap ((BitVec.ofInt 64 (a : Int) ||| BitVec.ofInt 64 (b : Int)).toNat : Int) = _
  rw [BitVec.toNat_or, ofInt_i64 a ha, ofInt_i64 b hb, IntKind.wrap_i64]
  omega
theorem i64_xor_nat (a b : Nat) (ha : a < 9223372036854775808) (hb : b < 9223372036854775808) : bits .xor .i64 (a : Int) (b : Int) = ((a ^^^ b : Nat) : Int) := by
  have hx : a ^^^ b < 2 ^ 63 := Nat.xor_lt_two_pow (by omega) (by omega)
  show IntKind.i64.wrap ((BitVec.ofInt 64 (a : Int) ^^^ BitVec.ofInt 64 (b : Int)).toNat : Int) = _
  rw [BitVec.toNat_xor, ofInt_i64 a ha, ofInt_i64 b hb, IntKind.wrap_i64]
  omega
theorem i64_odd (a : Nat) (ha : a < 9223372036854775808) : bits .and .i64 (a : Int) 1 = ((a % 2 : Nat) : Int) := by
  have h := i64_and_nat a 1 ha (by omega)
  rw [Nat.and_one_is_mod] at h
  exact h
/-- x &^ 255 is 0 for the bytes alone -/
theorem and_mask (v m : BitVec 64) (h : v &&& ~~~m = 0#64) : v = v &&& m := by
  apply BitVec.eq_of_getLsbD_eq
  intro i hi
  have h2 := congrArg (fun x => x.getLsbD i) h
  simp at h2
  simp
  exact fun hv => h2 hv hi
theorem i64_mask255 (x : Int) (h1 : -9223372036854775808 ≤ x) (h2 : x ≤ 9223372036854775807) : (bits .andNot .i64 x 255 != 0) = !decide (0 ≤ x ∧ x ≤ 255) := by
  by_cases h : 0 ≤ x ∧ x ≤ 255
  · obtain ⟨n, rfl⟩ := Int.eq_ofNat_of_zero_le h.1
    have hn : n < 256 := by omega
    have hall : ∀ n : Fin 256, bits .andNot .i64 (n.val : Int) 255 = 0 := by decide +kernel
    have := hall ⟨n, hn⟩
    simp only at this
    rw [this]
    simp
    omega
  · have hd : decide (0 ≤ x ∧ x ≤ 255) = false := by simpa using h
    rw [hd]
    simp only [Bool.not_false, bne_iff_ne, ne_eq]
    intro hb
    have hb' : IntKind.i64.wrap ((BitVec.ofInt 64 x &&& ~~~(BitVec.ofInt 64 255)).toNat : Int) = 0 := hb
    rw [IntKind.wrap_i64] at hb'
    have hlt := (BitVec.ofInt 64 x &&& ~~~(BitVec.ofInt 64 255)).isLt
    have h0 : (BitVec.ofInt 64 x &&& ~~~(BitVec.ofInt 64 255)).toNat = 0 := by omega
    have hz : BitVec.ofInt 64 x &&& ~~~(BitVec.ofInt 64 255) = 0#64 := BitVec.eq_of_toNat_eq (by rw [h0]; rfl)
    have he := and_mask _ _ hz
    have ht := congrArg BitVec.toNat he
    rw [BitVec.toNat_and, BitVec.toNat_ofInt] at ht
    have hm : (BitVec.ofInt 64 255).toNat = 255 := by decide
    rw [hm] at ht
    have hand := Nat.and_le_right (n := (x % ((2 : Nat) ^ 64 : Nat)).toNat) (m := 255)
    rw [← ht] at hand
    omega
end Go.Proofs.Ythjjchlibbheaaa.kit
