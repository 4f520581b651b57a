/-
  Plain laws: a drive as a machine: what a job does, what it comes to; the bits of Keep.
-/
import Derived.Test.YthjjchlibbheaaaBits
namespace Go.Proofs.Ythjjchlibbheaaa.drive
open Go.Proofs.Ythjjchlibbheaaa.kit
set_option linter.unusedVariables false
structure DS where
  pl : Nat → Option (Nat → Nat)
  br : Nat → Bool
  ws : List (Nat × (Nat → Nat))
  dead : Bool
def DS.fresh : DS := ⟨fun _ => none, fun _ => false, [], false⟩
def putP (s : DS) (q : Nat × (Nat → Nat)) : DS := { s with pl := fun i => if i = q.1 then some q.2 else s.pl i, br := fun i => if i = q.1 then false else s.br i }
abbrev noP : Nat × (Nat → Nat) := (0, fun _ => 0)
/-- of what waits, those that are so, the first i, come onto the plate -/
def settleN (so : Nat → Bool) (s : DS) : Nat → DS
  | 0 => s
  | i + 1 => if so i = true then putP (settleN so s i) (s.ws.getD i noP) else settleN so s i
theorem settle_ws (so : Nat → Bool) (s : DS) : ∀ i, (settleN so s i).ws = s.ws
  | 0 => rfl
  | i + 1 => by unfold settleN; split; exact settle_ws so s i; exact settle_ws so s i
theorem settle_dead (so : Nat → Bool) (s : DS) : ∀ i, (settleN so s i).dead = s.dead
  | 0 => rfl
  | i + 1 => by unfold settleN; split; exact settle_dead so s i; exact settle_dead so s i
def settleS (so : Nat → Bool) (s : DS) : DS := { settleN so s s.ws.length with ws := [] }
/-- the last of the first i that wait for a place -/
def lastN (at_ : Nat) (ws : List (Nat × (Nat → Nat))) : Nat → Option (Nat → Nat)
  | 0 => none
  | i + 1 => if (ws.getD i noP).1 = at_ then some (ws.getD i noP).2 else lastN at_ ws i
/-- what a place reads as, nothing waiting for it -/
def plateR (s : DS) (at_ : Nat) : Int × Option (Nat → Nat) := if s.br at_ = true then (12, none) else (0, some (match s.pl at_ with | some d => d | none => fun _ => 0))
def getS (s : DS) (at_ : Nat) : Int × Option (Nat → Nat) := match lastN at_ s.ws s.ws.length with | some d => (0, some d) | none => plateR s at_
def bitP (kp : Int) (k : Nat) : Bool := decide (kp / 2 ^ (k % 62) % 2 = 1)
def placedP (k : Int) : Prop := k = 1 ∨ k = 2 ∨ k = 5 ∨ k = 6
instance (k : Int) : Decidable (placedP k) := by unfold placedP; infer_instance
/-- what is refused ahead of all -/
def faultC (n : Nat) (dead : Bool) (k at_ : Int) (len : Nat) : Int :=
  if k < 1 ∨ 8 < k then 3 else if dead = true ∧ k ≠ 8 then 13 else if placedP k ∧ (at_ < 0 ∨ (n : Int) ≤ at_) then 2 else if (k = 1 ∨ k = 6) ∧ len ≠ 128 then 1 else 0
def stepS (n : Nat) (s : DS) (k at_ kp : Int) (len : Nat) (D : Nat → Nat) : DS × Int × Option (Nat → Nat) :=
  if faultC n s.dead k at_ len ≠ 0 then (s, faultC n s.dead k at_ len, none)
  else if k = 1 then ({ s with ws := s.ws ++ [(at_.toNat, D)] }, 0, none)
  else if k = 2 then (s, getS s at_.toNat)
  else if k = 3 then (settleS (fun _ => true) s, 0, none)
  else if k = 4 then (settleS (bitP kp) s, 0, none)
  else if k = 5 then ({ s with br := fun i => if i = at_.toNat then true else s.br i }, 0, none)
  else if k = 6 then (putP s (at_.toNat, D), 0, none)
  else if k = 7 then ({ s with dead := true }, 0, none)
  else (DS.fresh, 0, none)
/-- jobs, one by one: the state behind the first i -/
def runS (n : Nat) (K A P : Nat → Int) (L : Nat → Nat) (D : Nat → Nat → Nat) : Nat → DS
  | 0 => DS.fresh
  | i + 1 => (stepS n (runS n K A P L D i) (K i) (A i) (P i) (L i) (D i)).1
def repS (n : Nat) (K A P : Nat → Int) (L : Nat → Nat) (D : Nat → Nat → Nat) (i : Nat) : Int × Option (Nat → Nat) := (stepS n (runS n K A P L D i) (K i) (A i) (P i) (L i) (D i)).2
/-- what waits is for a place of the plate -/
def InS (n m : Nat) (s : DS) : Prop := s.ws.length ≤ m ∧ ∀ q ∈ s.ws, q.1 < n
theorem step_in {n m : Nat} {s : DS} (h : InS n m s) (k at_ kp : Int) (len : Nat) (D : Nat → Nat) : InS n (m + 1) (stepS n s k at_ kp len D).1 := by
  have h0 : InS n (m + 1) s := ⟨Nat.le_succ_of_le h.1, h.2⟩
  unfold stepS
  by_cases hf : faultC n s.dead k at_ len ≠ 0
  · rw [if_pos hf]; exact h0
  rw [if_neg hf]
  split
  · rename_i hk
    refine ⟨by simp; exact h.1, fun q hq => ?_⟩
    rcases List.mem_append.1 hq with h1 | h1
    · exact h.2 q h1
    · simp at h1
      subst h1
      have hf : faultC n s.dead k at_ len = 0 := Decidable.not_not.1 hf
      unfold faultC at hf
      have hn : ¬ (placedP k ∧ (at_ < 0 ∨ (n : Int) ≤ at_)) := fun hc => by
        rw [if_pos hc] at hf
        split at hf
        · cases hf
        split at hf
        · cases hf
        · cases hf
      have hp : placedP k := .inl hk
      have : ¬ (at_ < 0 ∨ (n : Int) ≤ at_) := fun hc => hn ⟨hp, hc⟩
      show at_.toNat < n
      omega
  split
  · exact h0
  split
  · exact ⟨Nat.zero_le _, fun q hq => by simp [settleS] at hq⟩
  split
  · exact ⟨Nat.zero_le _, fun q hq => by simp [settleS] at hq⟩
  split
  · exact h0
  split
  · exact h0
  split
  · exact h0
  · exact ⟨Nat.zero_le _, fun q hq => by simp [DS.fresh] at hq⟩
theorem run_in (n : Nat) (K A P : Nat → Int) (L : Nat → Nat) (D : Nat → Nat → Nat) : ∀ i, InS n i (runS n K A P L D i)
  | 0 => ⟨Nat.zero_le _, fun q hq => by simp [runS, DS.fresh] at hq⟩
  | i + 1 => step_in (run_in n K A P L D i) _ _ _ _ _
theorem mod_div_bit (x : Int) (s : Nat) (hs : s < 64) : ((x % 18446744073709551616).toNat / 2 ^ s) % 2 = (x / 2 ^ s % 2).toNat := by
  have hx : x % 18446744073709551616 + 18446744073709551616 * (x / 18446744073709551616) = x := by omega
  have hm := Int.emod_nonneg x (b := 18446744073709551616) (by decide)
  obtain ⟨m, hmm⟩ := Int.eq_ofNat_of_zero_le hm
  obtain ⟨q, hq⟩ : ∃ q, q = x / 18446744073709551616 := ⟨_, rfl⟩
  rw [← hq, hmm] at hx
  rw [hmm, Int.toNat_natCast]
  have hp : (18446744073709551616 : Int) = 2 ^ s * (2 * 2 ^ (63 - s)) := by
    have h1 : (18446744073709551616 : Int) = 2 ^ 64 := by decide
    rw [h1, show (64 : Nat) = s + (1 + (63 - s)) by omega, Int.pow_add, Int.pow_add]
    simp
  have hpos : (2 : Int) ^ s ≠ 0 := by
    have : (0 : Int) < 2 ^ s := Int.pow_pos (by decide)
    omega
  have h2 : x / 2 ^ s = (m : Int) / 2 ^ s + 2 * (2 ^ (63 - s) * q) := by
    rw [← hx, hp, Int.mul_assoc, Int.add_mul_ediv_left _ _ hpos]
    simp [Int.mul_assoc]
  rw [h2]
  have h3 : ((m : Int) / 2 ^ s) = ((m / 2 ^ s : Nat) : Int) := by push_cast; rfl
  rw [h3]
  omega
theorem and_one (x : Int) : bits .and .i64 x 1 = x % 2 := by
  show IntKind.i64.wrap ((BitVec.ofInt 64 x &&& BitVec.ofInt 64 1).toNat : Int) = _
  rw [BitVec.toNat_and, show (BitVec.ofInt 64 1).toNat = 1 by decide, Nat.and_one_is_mod, BitVec.toNat_ofInt, IntKind.wrap_i64]
  have h := mod_div_bit x 0 (by decide)
  simp at h
  have h2 : ((x % ((2 : Nat) ^ 64 : Nat)).toNat) % 2 = (x % 2).toNat := by
    rw [show (((2 : Nat) ^ 64 : Nat) : Int) = 18446744073709551616 by decide]
    exact h
  rw [h2]
  omega
theorem nat_and_pow (x s : Nat) : x &&& 2 ^ s = (x.testBit s).toNat * 2 ^ s := by
  apply Nat.eq_of_testBit_eq
  intro i
  rw [Nat.testBit_and, Nat.testBit_two_pow]
  by_cases h : s = i
  · subst h
    cases hb : x.testBit s <;> simp [Nat.testBit_two_pow]
  · cases hb : x.testBit s <;> simp [Nat.testBit_two_pow, h]
theorem and_pow (x : Int) (s : Nat) (hs : s < 62) : (bits .and .i64 x ((2 : Int) ^ s) != 0) = decide (x / 2 ^ s % 2 = 1) := by
  show (IntKind.i64.wrap ((BitVec.ofInt 64 x &&& BitVec.ofInt 64 ((2 : Int) ^ s)).toNat : Int) != 0) = _
  have hp : (BitVec.ofInt 64 ((2 : Int) ^ s)).toNat = 2 ^ s := by
    rw [show ((2 : Int) ^ s) = ((2 ^ s : Nat) : Int) by push_cast; rfl, BitVec.ofInt_natCast, BitVec.toNat_ofNat]
    exact Nat.mod_eq_of_lt (Nat.pow_lt_pow_right (by decide) (by omega))
  rw [BitVec.toNat_and, hp, BitVec.toNat_ofInt, nat_and_pow, IntKind.wrap_i64]
  have h := mod_div_bit x s (by omega)
  rw [show (((2 : Nat) ^ 64 : Nat) : Int) = 18446744073709551616 by decide]
  have hlt : (2 : Nat) ^ s < 2 ^ 62 := Nat.pow_lt_pow_right (by decide) hs
  have hgt : 0 < (2 : Nat) ^ s := Nat.pow_pos (by decide)
  have ht : ((x % 18446744073709551616).toNat.testBit s) = decide (x / 2 ^ s % 2 = 1) := by
    rw [Nat.testBit_eq_decide_div_mod_eq, h]
    rw [Bool.eq_iff_iff]
    simp only [decide_eq_true_eq]
    omega
  rw [ht]
  by_cases hb : x / 2 ^ s % 2 = 1
  · rw [decide_eq_true hb]
    simp only [Bool.toNat_true, Nat.one_mul]
    rw [bne_iff_ne]
    generalize (2 : Nat) ^ s = y at hlt hgt
    omega
  · rw [decide_eq_false hb]
    simp
end Go.Proofs.Ythjjchlibbheaaa.drive
