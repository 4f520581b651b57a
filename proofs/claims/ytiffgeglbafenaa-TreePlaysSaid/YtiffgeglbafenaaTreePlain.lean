/-
  Plain laws: versions of bytes: what a step does, what it comes to.
-/
import Derived.Test.YtiffgeglbafenaaKit
namespace Go.Proofs.Ytiffgeglbafenaa.tree
set_option linter.unusedVariables false
/-- a version: how many bytes, and these -/
structure Ver where
  size : Nat
  f : Nat → Nat
def Ver.none : Ver := ⟨0, fun _ => 0⟩
/-- what a step comes to -/
structure Sho where
  code : Int
  ver : Nat
  size : Nat
  len : Nat
  d : Nat → Nat
def Sho.no (c : Int) : Sho := ⟨c, 0, 0, 0, fun _ => 0⟩
def putF (off l : Nat) (D f : Nat → Nat) (i : Nat) : Nat := if off ≤ i ∧ i < off + l then D (i - off) else f i
def cutF (e : Nat) (f : Nat → Nat) (i : Nat) : Nat := if i < e then f i else 0
def Ver.put (x : Ver) (off l : Nat) (D : Nat → Nat) : Ver := ⟨max x.size (off + l), putF off l D x.f⟩
def Ver.cut (x : Ver) (n : Nat) : Ver := ⟨n, cutF n x.f⟩
def Ver.show (x : Ver) (off cnt : Nat) : Sho := ⟨0, 0, x.size, if x.size ≤ off then 0 else min cnt (x.size - off), fun i => x.f (off + i)⟩
/-- a step: what is refused: 0: nothing -/
def codeT (n : Nat) (k v off cnt : Int) (l : Nat) : Int :=
  if k < 1 ∨ 3 < k then 3
  else if v < 0 ∨ (n : Int) ≤ v then 2
  else if k = 1 then (if off < 0 then 2 else if l = 0 ∨ 4096 < off + l then 1 else 0)
  else if k = 2 then (if cnt < 0 ∨ 4096 < cnt then 2 else 0)
  else if off < 0 ∨ cnt < 0 then 2 else 0
def stepT (s : List Ver) (k v off cnt : Int) (l : Nat) (D : Nat → Nat) : List Ver × Sho :=
  if codeT s.length k v off cnt l ≠ 0 then (s, Sho.no (codeT s.length k v off cnt l))
  else if k = 1 then
    (s ++ [(s.getD v.toNat Ver.none).put off.toNat l D], ⟨0, s.length, ((s.getD v.toNat Ver.none).put off.toNat l D).size, 0, fun _ => 0⟩)
  else if k = 2 then
    (s ++ [(s.getD v.toNat Ver.none).cut cnt.toNat], ⟨0, s.length, cnt.toNat, 0, fun _ => 0⟩)
  else (s, (s.getD v.toNat Ver.none).show off.toNat cnt.toNat)
def runT (K V O C : Nat → Int) (L : Nat → Nat) (D : Nat → Nat → Nat) : Nat → List Ver
  | 0 => [Ver.none]
  | i + 1 => (stepT (runT K V O C L D i) (K i) (V i) (O i) (C i) (L i) (D i)).1
def shoT (K V O C : Nat → Int) (L : Nat → Nat) (D : Nat → Nat → Nat) (i : Nat) : Sho := (stepT (runT K V O C L D i) (K i) (V i) (O i) (C i) (L i) (D i)).2
/-- a version that may be: no more than 4096 bytes, and noughts behind them -/
def Ver.fine (x : Ver) : Prop := x.size ≤ 4096 ∧ ∀ i, x.size ≤ i → x.f i = 0
theorem Ver.fine_none : Ver.none.fine := ⟨Nat.zero_le _, fun _ _ => rfl⟩
theorem Ver.fine.put {x : Ver} (h : x.fine) {off l : Nat} (D : Nat → Nat) (hl : off + l ≤ 4096) : (x.put off l D).fine := by
  refine ⟨by have := h.1; show max _ _ ≤ _; omega, fun i hi => ?_⟩
  have hi' : max x.size (off + l) ≤ i := hi
  show putF off l D x.f i = 0
  unfold putF
  rw [if_neg (by omega)]
  exact h.2 i (by omega)
theorem Ver.fine.cut {x : Ver} (h : x.fine) {n : Nat} (hn : n ≤ 4096) : (x.cut n).fine := by
  refine ⟨hn, fun i hi => ?_⟩
  have hi' : n ≤ i := hi
  show cutF n x.f i = 0
  unfold cutF
  rw [if_neg (by omega)]
/-- the states that may be -/
def InT (m : Nat) (s : List Ver) : Prop := 1 ≤ s.length ∧ s.length ≤ m + 1 ∧ ∀ x ∈ s, x.fine
theorem codeT_zero {n : Nat} {k v off cnt : Int} {l : Nat} (h : codeT n k v off cnt l = 0) :
    (1 ≤ k ∧ k ≤ 3) ∧ (0 ≤ v ∧ v < n) ∧ (k = 1 → 0 ≤ off ∧ 0 < l ∧ off + l ≤ 4096) ∧ (k = 2 → 0 ≤ cnt ∧ cnt ≤ 4096) ∧ (k = 3 → 0 ≤ off ∧ 0 ≤ cnt) := by
  unfold codeT at h
  by_cases h1 : k < 1 ∨ 3 < k
  · rw [if_pos h1] at h; cases h
  rw [if_neg h1] at h
  by_cases h2 : v < 0 ∨ (n : Int) ≤ v
  · rw [if_pos h2] at h; cases h
  rw [if_neg h2] at h
  refine ⟨by omega, by omega, fun hk => ?_, fun hk => ?_, fun hk => ?_⟩
  · rw [if_pos hk] at h
    by_cases h3 : off < 0
    · rw [if_pos h3] at h; cases h
    rw [if_neg h3] at h
    by_cases h4 : l = 0 ∨ 4096 < off + l
    · rw [if_pos h4] at h; cases h
    omega
  · rw [if_neg (by omega), if_pos hk] at h
    by_cases h3 : cnt < 0 ∨ 4096 < cnt
    · rw [if_pos h3] at h; cases h
    omega
  · rw [if_neg (by omega), if_neg (by omega)] at h
    by_cases h3 : off < 0 ∨ cnt < 0
    · rw [if_pos h3] at h; cases h
    omega
theorem getD_fine {s : List Ver} (h : ∀ x ∈ s, x.fine) (i : Nat) : (s.getD i Ver.none).fine := by
  by_cases hi : i < s.length
  · have : s.getD i Ver.none = s[i] := by simp [hi]
    rw [this]
    exact h _ (List.getElem_mem hi)
  · have : s.getD i Ver.none = Ver.none := by simp [List.getD, List.getElem?_eq_none (Nat.le_of_not_lt hi)]
    rw [this]
    exact Ver.fine_none
theorem step_in {m : Nat} {s : List Ver} (h : InT m s) (k v off cnt : Int) (l : Nat) (D : Nat → Nat) : InT (m + 1) (stepT s k v off cnt l D).1 := by
  have h0 : InT (m + 1) s := ⟨h.1, by have := h.2.1; omega, h.2.2⟩
  unfold stepT
  by_cases hc : codeT s.length k v off cnt l = 0
  · obtain ⟨h1, h2, h3, h4, h5⟩ := codeT_zero hc
    rw [if_neg (by rw [hc]; simp)]
    split
    · rename_i hk
      obtain ⟨h6, h7, h8⟩ := h3 hk
      refine ⟨by simp, by have := h.2.1; simp; omega, fun x hx => ?_⟩
      rcases List.mem_append.1 hx with hx | hx
      · exact h.2.2 x hx
      · obtain rfl := List.mem_singleton.1 hx
        exact (getD_fine h.2.2 _).put D (by omega)
    split
    · rename_i hk
      obtain ⟨h6, h7⟩ := h4 hk
      refine ⟨by simp, by have := h.2.1; simp; omega, fun x hx => ?_⟩
      rcases List.mem_append.1 hx with hx | hx
      · exact h.2.2 x hx
      · obtain rfl := List.mem_singleton.1 hx
        exact (getD_fine h.2.2 _).cut (by omega)
    · exact h0
  · rw [if_pos hc]; exact h0
theorem run_inT (K V O C : Nat → Int) (L : Nat → Nat) (D : Nat → Nat → Nat) : ∀ i, InT i (runT K V O C L D i)
  | 0 => ⟨by simp [runT], by simp [runT], fun x hx => by simp [runT] at hx; subst hx; exact Ver.fine_none⟩
  | i + 1 => step_in (run_inT K V O C L D i) _ _ _ _ _ _
/-- how many bytes a node of a level has -/
def roomN (L : Nat) : Nat := 64 * 4 ^ L
theorem roomN_zero : roomN 0 = 64 := rfl
theorem roomN_succ (L : Nat) : roomN (L + 1) = 4 * roomN L := by unfold roomN; rw [Nat.pow_succ]; omega
theorem roomN_pos (L : Nat) : 64 ≤ roomN L := by
  unfold roomN
  have : 0 < 4 ^ L := Nat.pow_pos (by decide)
  omega
theorem roomN_mono {L M : Nat} (h : L ≤ M) : roomN L ≤ roomN M := by
  unfold roomN
  exact Nat.mul_le_mul_left _ (Nat.pow_le_pow_right (by decide) h)
theorem roomN_le {L : Nat} (h : L ≤ 3) : roomN L ≤ 4096 := by
  match L, h with
  | 0, _ => decide
  | 1, _ => decide
  | 2, _ => decide
  | 3, _ => decide
/-- the level of a root -/
def lvl (n : Nat) : Nat := if n ≤ 64 then 0 else if n ≤ 256 then 1 else if n ≤ 1024 then 2 else 3
theorem lvl_le (n : Nat) : lvl n ≤ 3 := by unfold lvl; split; omega; split; omega; split <;> omega
theorem lvl_room {n : Nat} (h : n ≤ 4096) : n ≤ roomN (lvl n) := by
  unfold lvl
  split
  · exact ‹_›
  split
  · exact ‹_›
  split
  · exact ‹_›
  · exact h
theorem lvl_mono {m n : Nat} (h : m ≤ n) : lvl m ≤ lvl n := by
  unfold lvl
  repeat' split
  all_goals omega
theorem lvl_below {n L : Nat} (h : L < lvl n) : roomN L < n := by
  unfold lvl at h
  have h0 : roomN 0 = 64 := rfl
  have h1 : roomN 1 = 256 := rfl
  have h2 : roomN 2 = 1024 := rfl
  split at h
  · omega
  split at h
  · obtain rfl : L = 0 := by omega
    omega
  split at h
  · have : L = 0 ∨ L = 1 := by omega
    rcases this with rfl | rfl <;> omega
  · have : L = 0 ∨ L = 1 ∨ L = 2 := by omega
    rcases this with rfl | rfl | rfl <;> omega
end Go.Proofs.Ytiffgeglbafenaa.tree
