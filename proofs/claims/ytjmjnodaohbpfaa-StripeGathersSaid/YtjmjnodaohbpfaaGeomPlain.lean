/-
  Plain functions of package geom and of its reference, no program in sight; that they agree.
-/
import Derived.Lib.Hide
namespace Go.Proofs.Ytjmjnodaohbpfaa.geom

/-- up(n, by) -/
def upF (n b : Int) : Int := (n + b - 1) / b * b
def mayP (d p : Int) : Prop := 2 ≤ d ∧ d ≤ 8 ∧ 1 ≤ p ∧ p ≤ 3 ∧ p < d
instance (d p : Int) : Decidable (mayP d p) := by unfold mayP; infer_instance
def cntP (c : Int) : Prop := 1 ≤ c ∧ c ≤ 32
instance (c : Int) : Decidable (cntP c) := by unfold cntP; infer_instance
def adrP (a : Int) : Prop := 0 ≤ a ∧ a ≤ 65536
instance (a : Int) : Decidable (adrP a) := by unfold adrP; infer_instance
def costV (d p c : Int) : Int := upF (c + p * (upF c (d - p) / (d - p))) (p + 1)
def costF (d p c : Int) : Int := if mayP d p ∧ cntP c then costV d p c else 0
def costE (d p c : Int) : Int := if mayP d p ∧ cntP c then 0 else 2

/-- the reference's first loop, what is still to come -/
def rowsF (w p : Int) : Nat → Int → Int → Int
  | 0, _, n => n
  | f + 1, left, n => if 0 < left then rowsF w p f (left - w) (n + (p + min left w)) else n
def padF (p : Int) : Nat → Int → Int
  | 0, n => n
  | f + 1, n => if n % (p + 1) = 0 then n else padF p f (n + 1)

theorem upF_bd (n b : Int) (hb : 1 ≤ b) : n ≤ upF n b ∧ upF n b ≤ n + b - 1 := by
  unfold upF
  have h1 := Int.mul_ediv_add_emod (n + b - 1) b
  have h2 := Int.emod_nonneg (n + b - 1) (b := b) (by omega)
  have h3 := Int.emod_lt_of_pos (n + b - 1) (b := b) (by omega)
  rw [Int.mul_comm] at h1
  omega

theorem agree_all : ∀ d : Fin 9, ∀ p : Fin 4, ∀ c : Fin 33, 2 ≤ d.val → 1 ≤ p.val → p.val < d.val → 1 ≤ c.val →
    padF (p.val : Int) 4 (rowsF ((d.val : Int) - p.val) p.val 40 c.val 0) = costV d.val p.val c.val := by decide +kernel
theorem agree (d p c : Int) (h : mayP d p) (hc : cntP c) : padF p 4 (rowsF (d - p) p 40 c 0) = costV d p c := by
  obtain ⟨h1, h2, h3, h4, h5⟩ := h
  obtain ⟨c1, c2⟩ := hc
  obtain ⟨d, rfl⟩ := Int.eq_ofNat_of_zero_le (by omega : 0 ≤ d)
  obtain ⟨p, rfl⟩ := Int.eq_ofNat_of_zero_le (by omega : 0 ≤ p)
  obtain ⟨c, rfl⟩ := Int.eq_ofNat_of_zero_le (by omega : 0 ≤ c)
  exact agree_all ⟨d, by omega⟩ ⟨p, by omega⟩ ⟨c, by omega⟩ (by show 2 ≤ d; omega) (by show 1 ≤ p; omega) (by show p < d; omega) (by show 1 ≤ c; omega)
theorem rowsF_bd : ∀ (f : Nat) (w p left n : Int), 1 ≤ w → w ≤ 7 → 1 ≤ p → p ≤ 3 → left ≤ f → 0 ≤ n → n ≤ rowsF w p f left n ∧ rowsF w p f left n ≤ n + 10 * f
  | 0, w, p, left, n, _, _, _, _, _, _ => by simp [rowsF]
  | f + 1, w, p, left, n, h1, h2, h3, h4, h5, h6 => by
    unfold rowsF
    split
    · have := rowsF_bd f w p (left - w) (n + (p + min left w)) h1 h2 h3 h4 (by omega) (by omega)
      omega
    · omega
/-- so many steps at the most are still to come in the second loop -/
theorem pad_step (p n : Int) (f : Nat) (hp : 1 ≤ p) (hp3 : p ≤ 3) (hn : n % (p + 1) ≠ 0) (hf : p + 1 - n % (p + 1) ≤ f) :
    ∃ g : Nat, f = g + 1 ∧ ((n + 1) % (p + 1) = 0 ∨ p + 1 - (n + 1) % (p + 1) ≤ g) := by
  obtain rfl | rfl | rfl : p = 1 ∨ p = 2 ∨ p = 3 := by omega
  all_goals exact ⟨f - 1, by omega, by omega⟩
theorem pad_start (p n : Int) (hp : 1 ≤ p) (hp3 : p ≤ 3) : n % (p + 1) = 0 ∨ p + 1 - n % (p + 1) ≤ (4 : Nat) := by
  obtain rfl | rfl | rfl : p = 1 ∨ p = 2 ∨ p = 3 := by omega
  all_goals omega
theorem rowsF_end (w p : Int) (f : Nat) (left n : Int) (h : left ≤ 0) : rowsF w p f left n = n := by
  cases f with
  | zero => rfl
  | succ f => unfold rowsF; rw [if_neg (by omega)]
theorem padF_end (p : Int) (f : Nat) (n : Int) (h : n % (p + 1) = 0) : padF p f n = n := by
  cases f with
  | zero => rfl
  | succ f => unfold padF; rw [if_pos h]
end Go.Proofs.Ytjmjnodaohbpfaa.geom
