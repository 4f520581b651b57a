/-
  A matrix in memory to whose rows a number is appended, one after the other.
-/
import Derived.Test.YtjmjnodaohbpfaaMatOwn
import Derived.Test.YtjmjnodaohbpfaaMatSwept
namespace Go.Proofs.Ytjmjnodaohbpfaa.mat
open Go.ChangeShapes Go.WideShapes Go.ChangeAt Go.RowKit Go.Proofs.Ytjmjnodaohbpfaa.kit Go.Proofs.Ytjmjnodaohbpfaa.gf Go.Deep
set_option linter.unusedVariables false

def lenA (n t i : Nat) : Nat := if i < t then n + 1 else n
structure Ax (w0 : World) (B o n t : Nat) (G C : Nat → Nat) (Z : Nat → Nat → Nat) (w : World) : Prop where
  ob : B ≤ o ∧ o < w.heap.size
  gb : ∀ i, i < n → B ≤ G i ∧ G i < w.heap.size
  ne : ∀ i, i < n → G i ≠ o
  inj : ∀ i j, i < n → j < n → G i = G j → i = j
  out : ∃ cs : Array Value, w.heap[o]? = some (.cells cs 29 (0, 0)) ∧ ∀ i, i < n → cs[i]? = some (.slice (some ⟨G i, 0, none⟩) (lenA n t i) (C i))
  row : ∀ i, i < n → CapR w (G i) (lenA n t i) (C i) ∧ RowV w (G i) (lenA n t i) (Z i)
  bl : Below B w0 w
section
variable {w0 w w1 w2 : World} {B H o n t : Nat} {G C : Nat → Nat} {Z : Nat → Nat → Nat}
theorem Ax.start (h : Mx w B w.heap.size o n n G C Z) (hc : ∀ i, i < n → CapR w (G i) n (C i)) (hb : Below B w0 w) : Ax w0 B o n 0 G C Z w :=
  ⟨h.ob, h.gb, h.ne, h.inj, h.out, fun i hi => ⟨hc i hi, h.row i hi⟩, hb⟩
theorem Ax.mx (h : Ax w0 B o n n G C Z w) : SSt w0 B w.heap.size o n (n + 1) G C Z w := by
  have hl : ∀ i, i < n → lenA n n i = n + 1 := fun i hi => if_pos hi
  refine ⟨⟨h.ob, h.gb, h.ne, h.inj, fun i hi => (by have := (h.row i hi).1; rw [hl i hi] at this; exact ⟨this.1, this.2.1⟩), ?_, fun i hi => ?_⟩, h.bl, Nat.le_refl _⟩
  · obtain ⟨cs, h1, h2⟩ := h.out
    exact ⟨cs, h1, fun i hi => by rw [h2 i hi, hl i hi]⟩
  · have := (h.row i hi).2
    rw [hl i hi] at this
    exact this
theorem Ax.cellO (h : Ax w0 B o n t G C Z w) {i : Nat} (hi : i < n) : w.cell? ⟨o, i, none⟩ = some (.slice (some ⟨G i, 0, none⟩) (lenA n t i) (C i)) := by
  obtain ⟨cs, h1, h2⟩ := h.out
  rw [cell_of_row w o i cs _ _ h1, h2 i hi]
theorem Ax.frozenO (h : Ax w0 B o n t G C Z w) (i : Nat) : w.frozen? ⟨o, i, none⟩ = false := by
  obtain ⟨cs, h1, h2⟩ := h.out
  exact Blk.frozen (t := 29) h1 i
theorem Ax.new (h : Ax w0 B o n t G C Z w) (hn : New w w1) : Ax w0 B o n t G C Z w1 := by
  have hs := hn.size
  refine ⟨⟨h.ob.1, by have := h.ob.2; omega⟩, fun i hi => ⟨(h.gb i hi).1, by have := (h.gb i hi).2; omega⟩, h.ne, h.inj, ?_, fun i hi => ⟨(h.row i hi).1.new hn, (h.row i hi).2.new hn⟩, Below.next h.bl hn (by have := h.ob; omega)⟩
  obtain ⟨cs, h1, h2⟩ := h.out
  exact ⟨cs, (hn.block o h.ob.2).trans h1, h2⟩
/-- the row that comes next -/
theorem Ax.own (h : Ax w0 B o n t G C Z w) (ht : t < n) : w.ownsRow B 3 1 (.slice (some ⟨G t, 0, none⟩) n (C t)) n (rowL (Z t) n) := by
  obtain ⟨⟨h1, h2, cs, h3, h4⟩, cs', h5, h6⟩ := h.row t ht
  have hl : lenA n t t = n := if_neg (by omega)
  rw [hl] at h1 h6
  rw [h3] at h5
  injection h5 with h5
  injection h5 with h5 _ _
  subst h5
  refine ⟨by rw [rowL_len, Nat.mul_one], .inr ⟨G t, C t, cs, rfl, (h.gb t ht).1, h3, h1, h2, by rw [h4, Nat.mul_one], ?_⟩⟩
  rw [Nat.mul_one]
  apply List.ext_getElem?
  intro k
  rw [List.getElem?_take]
  by_cases hk : k < n
  · rw [if_pos hk]
    have := h6 k hk
    simpa [rowL, hk] using this
  · rw [if_neg hk, List.getElem?_eq_none (by rw [rowL_len]; omega)]
theorem Ax.step {g c : Nat} (h : Ax w0 B o n t G C Z w) (ht : t < n) (hn : New w w1) (hown : w2.ownsRow B 3 1 (.slice (some ⟨g, 0, none⟩) (n + 1) c) (n + 1) (rowL (Z t) (n + 1)))
    (hgr : w1.grownBy w2 (some (G t))) (hat : g = G t ∨ g = w1.heap.size) :
    Ax w0 B o n (t + 1) (fun i => if i = t then g else G i) (fun i => if i = t then c else C i) Z (w2.setCell ⟨o, t, none⟩ (.slice (some ⟨g, 0, none⟩) (n + 1) c)) := by
  have h1 := h.new hn
  have hs := hgr.size
  have hgo : g ≠ o := by
    rcases hat with e | e
    · rw [e]; exact h.ne t ht
    · have := h1.ob.2; omega
  have hgi : ∀ i, i < n → i ≠ t → g ≠ G i := fun i hi hit => by
    rcases hat with e | e
    · rw [e]; exact fun e2 => hit (h.inj t i ht hi e2).symm
    · have := (h1.gb i hi).2; omega
  have hBs : B ≤ w1.heap.size := by have := h1.ob; omega
  have hB : B ≤ g := by
    rcases hat with e | e
    · rw [e]; exact (h.gb t ht).1
    · omega
  have hc2 : CapR w2 g (n + 1) c := CapR.of_own hown
  have hv2 : RowV w2 g (n + 1) (Z t) := RowV.of_own hown
  have hsz : (w2.setCell ⟨o, t, none⟩ (.slice (some ⟨g, 0, none⟩) (n + 1) c)).heap.size = w2.heap.size := by simp [World.setCell]
  refine ⟨⟨h1.ob.1, by rw [hsz]; have := h1.ob.2; omega⟩, fun i hi => ?_, fun i hi => ?_, fun i j hi hj he => ?_, ?_, fun i hi => ?_, ?_⟩
  · rw [hsz]
    by_cases e : i = t
    · rw [if_pos e]; exact ⟨hB, hc2.lt⟩
    · rw [if_neg e]
      have := h1.gb i hi
      exact ⟨this.1, by omega⟩
  · by_cases e : i = t
    · rw [if_pos e]; exact hgo
    · rw [if_neg e]; exact h.ne i hi
  · by_cases e1 : i = t <;> by_cases e2 : j = t
    · omega
    · rw [if_pos e1, if_neg e2] at he
      exact absurd he (hgi j hj e2)
    · rw [if_neg e1, if_pos e2] at he
      exact absurd he.symm (hgi i hi e1)
    · rw [if_neg e1, if_neg e2] at he
      exact h.inj i j hi hj he
  · obtain ⟨cs, h3, h4⟩ := h1.out
    have h5 : w2.heap[o]? = some (.cells cs 29 (0, 0)) := (hgr.block o h1.ob.2 (fun e => h.ne t ht (by injection e with e; exact e.symm))).trans h3
    refine ⟨_, Blk.put (t := 29) h5 t _, fun i hi => ?_⟩
    have hlt : i < cs.size := by
      rcases Nat.lt_or_ge i cs.size with hl | hl
      · exact hl
      · have := h4 i hi
        rw [Array.getElem?_eq_none hl] at this; cases this
    by_cases e : i = t
    · subst e
      rw [Array.getElem?_setIfInBounds_self_of_lt hlt, if_pos rfl, if_pos rfl]
      simp [lenA]
    · rw [Array.getElem?_setIfInBounds_ne (fun e2 => e e2.symm), if_neg e, if_neg e, h4 i hi]
      have : lenA n t i = lenA n (t + 1) i := by unfold lenA; split <;> split <;> omega
      rw [this]
  · by_cases e : i = t
    · subst e
      rw [if_pos rfl, if_pos rfl, show lenA n (i + 1) i = n + 1 from if_pos (by omega)]
      exact ⟨hc2.block (Below.heap_setCell w2 _ _ g hgo), hv2.block (Below.heap_setCell w2 _ _ g hgo)⟩
    · rw [if_neg e, if_neg e]
      have hb : (w2.setCell ⟨o, t, none⟩ (.slice (some ⟨g, 0, none⟩) (n + 1) c)).heap[G i]? = w1.heap[G i]? := (Below.heap_setCell w2 _ _ (G i) (h.ne i hi)).trans (hgr.block (G i) (h1.gb i hi).2 (fun e2 => e (h.inj i t hi ht (by injection e2))))
      have hl : lenA n (t + 1) i = lenA n t i := by unfold lenA; split <;> split <;> omega
      rw [hl]
      exact ⟨(h1.row i hi).1.block hb, (h1.row i hi).2.block hb⟩
  · exact (Below.grown h1.bl hgr hBs (fun g' hg' => by injection hg' with hg'; rw [← hg']; exact (h.gb t ht).1)).setCell h1.ob.1 _
end
theorem rowL_app (f : Nat → Nat) (n : Nat) : rowL f n ++ [.int .i64 (f n : Nat)] = rowL f (n + 1) := by
  unfold rowL
  rw [List.range_succ, List.map_append]
  rfl
end Go.Proofs.Ytjmjnodaohbpfaa.mat
