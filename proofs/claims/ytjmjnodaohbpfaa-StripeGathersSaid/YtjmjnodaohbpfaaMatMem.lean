/-
  A matrix in memory whose rows are changed in place and change places.
-/
import Derived.Test.YtjmjnodaohbpfaaMatPlain
import Derived.Test.YtjmjnodaohbpfaaMatMulAll
import Derived.Test.YtjmjnodaohbpfaaRow
namespace Go.Proofs.Ytjmjnodaohbpfaa.mat
open Go.ChangeShapes Go.WideShapes Go.ChangeAt Go.RowKit Go.Proofs.Ytjmjnodaohbpfaa.kit Go.Proofs.Ytjmjnodaohbpfaa.gf Go.Deep
set_option linter.unusedVariables false

/-- block o holds n slices of m, of blocks G i, in which the numbers Z i k lie; all blocks lie from B on, below H -/
structure Mx (w : World) (B H o n m : Nat) (G C : Nat → Nat) (Z : Nat → Nat → Nat) : Prop where
  ob : B ≤ o ∧ o < H
  gb : ∀ i, i < n → B ≤ G i ∧ G i < H
  ne : ∀ i, i < n → G i ≠ o
  inj : ∀ i j, i < n → j < n → G i = G j → i = j
  cp : ∀ i, i < n → m ≤ C i ∧ C i ≤ maxLen
  out : ∃ cs : Array Value, w.heap[o]? = some (.cells cs 29 (0, 0)) ∧ ∀ i, i < n → cs[i]? = some (.slice (some ⟨G i, 0, none⟩) m (C i))
  row : ∀ i, i < n → ∃ cs : Array Value, w.heap[G i]? = some (.cells cs 3 (0, 0)) ∧ ∀ k, k < m → cs[k]? = some (.int .i64 (Z i k : Nat))
section
variable {w w' : World} {B H o n m : Nat} {G C : Nat → Nat} {Z Y : Nat → Nat → Nat}
theorem Mx.cellO (h : Mx w B H o n m G C Z) {i : Nat} (hi : i < n) : w.cell? ⟨o, i, none⟩ = some (.slice (some ⟨G i, 0, none⟩) m (C i)) := by
  obtain ⟨cs, h1, h2⟩ := h.out
  rw [cell_of_row w o i cs _ _ h1, h2 i hi]
theorem Mx.frozenO (h : Mx w B H o n m G C Z) (i : Nat) : w.frozen? ⟨o, i, none⟩ = false := by
  obtain ⟨cs, h1, h2⟩ := h.out
  exact Blk.frozen (t := 29) h1 i
theorem Mx.cell (h : Mx w B H o n m G C Z) {i k : Nat} (hi : i < n) (hk : k < m) : w.cell? ⟨G i, k, none⟩ = some (.int .i64 (Z i k : Nat)) := by
  obtain ⟨cs, h1, h2⟩ := h.row i hi
  rw [cell_of_row w (G i) k cs _ _ h1, h2 k hk]
theorem Mx.frozen (h : Mx w B H o n m G C Z) {i : Nat} (hi : i < n) (k : Nat) : w.frozen? ⟨G i, k, none⟩ = false := by
  obtain ⟨cs, h1, h2⟩ := h.row i hi
  exact Blk.frozen (t := 3) h1 k
theorem Mx.same (h : Mx w B H o n m G C Z) (hb : ∀ g, B ≤ g → g < H → w'.heap[g]? = w.heap[g]?) : Mx w' B H o n m G C Z :=
  ⟨h.ob, h.gb, h.ne, h.inj, h.cp, by
    obtain ⟨cs, h1, h2⟩ := h.out
    exact ⟨cs, (hb o h.ob.1 h.ob.2).trans h1, h2⟩, fun i hi => by
    obtain ⟨cs, h1, h2⟩ := h.row i hi
    exact ⟨cs, (hb _ (h.gb i hi).1 (h.gb i hi).2).trans h1, h2⟩⟩
theorem Mx.congr (h : Mx w B H o n m G C Z) (he : ∀ i k, i < n → k < m → Z i k = Y i k) : Mx w B H o n m G C Y :=
  ⟨h.ob, h.gb, h.ne, h.inj, h.cp, h.out, fun i hi => by
    obtain ⟨cs, h1, h2⟩ := h.row i hi
    exact ⟨cs, h1, fun k hk => by rw [h2 k hk, he i k hi hk]⟩⟩
theorem Mx.new (h : Mx w B H o n m G C Z) (hH : H ≤ w.heap.size) (hn : New w w') : Mx w' B H o n m G C Z := h.same fun g _ hg => hn.block g (by omega)
theorem Mx.far (h : Mx w B H o n m G C Z) {p : Addr} (hp : H ≤ p.block) (u : Value) : Mx (w.setCell p u) B H o n m G C Z := h.same fun g _ hg => Below.heap_setCell w p u g (by omega)
theorem Mx.set (h : Mx w B H o n m G C Z) {i k : Nat} (hi : i < n) (y : Nat) :
    Mx (w.setCell ⟨G i, k, none⟩ (.int .i64 y)) B H o n m G C (fun i' k' => if i' = i ∧ k' = k then y else Z i' k') :=
  ⟨h.ob, h.gb, h.ne, h.inj, h.cp, by
    obtain ⟨cs, h1, h2⟩ := h.out
    exact ⟨cs, (Below.heap_setCell w _ _ o (fun e => h.ne i hi e.symm)).trans h1, h2⟩, fun i' hi' => by
    obtain ⟨cs, h1, h2⟩ := h.row i' hi'
    by_cases e : i' = i
    · subst e
      refine ⟨cs.setIfInBounds k (.int .i64 y), Blk.put (t := 3) h1 k _, fun k' hk' => ?_⟩
      have h3 := h2 k' hk'
      by_cases ek : k' = k
      · subst ek
        rw [if_pos ⟨rfl, rfl⟩, Array.getElem?_setIfInBounds_self_of_lt (by
          rcases Nat.lt_or_ge k' cs.size with hl | hl
          · exact hl
          · rw [Array.getElem?_eq_none hl] at h3; cases h3)]
      · rw [if_neg (fun hh => ek hh.2), Array.getElem?_setIfInBounds_ne (fun hh => ek hh.symm)]
        exact h3
    · refine ⟨cs, (Below.heap_setCell w _ _ _ (fun e2 => e (h.inj i' i hi' hi e2))).trans h1, fun k' hk' => ?_⟩
      rw [if_neg (fun hh => e hh.1)]
      exact h2 k' hk'⟩
/-- two rows change places -/
def swpN (G : Nat → Nat) (a b : Nat) : Nat → Nat := fun i => if i = a then G b else if i = b then G a else G i
theorem Mx.swap (h : Mx w B H o n m G C Z) {a b : Nat} (ha : a < n) (hb : b < n) :
    Mx ((w.setCell ⟨o, a, none⟩ (.slice (some ⟨G b, 0, none⟩) m (C b))).setCell ⟨o, b, none⟩ (.slice (some ⟨G a, 0, none⟩) m (C a))) B H o n m (swpN G a b) (swpN C a b) (swp Z a b) := by
  have hcase : ∀ i, i < n → ∃ j, j < n ∧ swpN G a b i = G j ∧ swpN C a b i = C j ∧ swp Z a b i = Z j ∧ (j = if i = a then b else if i = b then a else i) := fun i hi => by
    unfold swpN swp
    by_cases e1 : i = a
    · exact ⟨b, hb, by rw [if_pos e1], by rw [if_pos e1], by rw [if_pos e1], by rw [if_pos e1]⟩
    · by_cases e2 : i = b
      · exact ⟨a, ha, by rw [if_neg e1, if_pos e2], by rw [if_neg e1, if_pos e2], by rw [if_neg e1, if_pos e2], by rw [if_neg e1, if_pos e2]⟩
      · exact ⟨i, hi, by rw [if_neg e1, if_neg e2], by rw [if_neg e1, if_neg e2], by rw [if_neg e1, if_neg e2], by rw [if_neg e1, if_neg e2]⟩
  refine ⟨h.ob, fun i hi => ?_, fun i hi => ?_, fun i j hi hj he => ?_, fun i hi => (by obtain ⟨j, hj, _, e2, _⟩ := hcase i hi; rw [e2]; exact h.cp j hj), ?_, fun i hi => ?_⟩
  · obtain ⟨j, hj, e1, _⟩ := hcase i hi
    rw [e1]
    exact h.gb j hj
  · obtain ⟨j, hj, e1, _⟩ := hcase i hi
    rw [e1]
    exact h.ne j hj
  · obtain ⟨i', hi', e1, _, _, f1⟩ := hcase i hi
    obtain ⟨j', hj', e2, _, _, f2⟩ := hcase j hj
    rw [e1, e2] at he
    have := h.inj i' j' hi' hj' he
    rw [f1, f2] at this
    by_cases x1 : i = a <;> by_cases x2 : j = a <;> by_cases x3 : i = b <;> by_cases x4 : j = b <;> simp only [x1, x2, x3, x4, if_true, if_false] at this ⊢ <;> (try omega)
    all_goals (split at this <;> omega)
  · obtain ⟨cs, h1, h2⟩ := h.out
    refine ⟨_, Blk.put (t := 29) (Blk.put (t := 29) h1 a _) b _, fun i hi => ?_⟩
    have hsz : ∀ j, j < n → j < cs.size := fun j hj => by
      have := h2 j hj
      rcases Nat.lt_or_ge j cs.size with hl | hl
      · exact hl
      · rw [Array.getElem?_eq_none hl] at this; cases this
    unfold swpN
    by_cases e2 : i = b
    · subst e2
      rw [Array.getElem?_setIfInBounds_self_of_lt (by simpa using hsz _ hi)]
      by_cases e1 : i = a
      · rw [if_pos e1, if_pos e1, e1]
      · rw [if_neg e1, if_pos rfl, if_neg e1, if_pos rfl]
    · rw [Array.getElem?_setIfInBounds_ne (fun e => e2 e.symm)]
      by_cases e1 : i = a
      · subst e1
        rw [Array.getElem?_setIfInBounds_self_of_lt (hsz _ hi), if_pos rfl, if_pos rfl]
      · rw [Array.getElem?_setIfInBounds_ne (fun e => e1 e.symm), if_neg e1, if_neg e2, if_neg e1, if_neg e2]
        exact h2 i hi
  · obtain ⟨j, hj, e1, _, e3, _⟩ := hcase i hi
    rw [e1, e3]
    obtain ⟨cs, h1, h2⟩ := h.row j hj
    exact ⟨cs, ((Below.heap_setCell _ _ _ _ (fun e => h.ne j hj e)).trans (Below.heap_setCell _ _ _ _ (fun e => h.ne j hj e))).trans h1, h2⟩
end
end Go.Proofs.Ytjmjnodaohbpfaa.mat
