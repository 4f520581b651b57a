/-
  Readings of slices of integers, and of slices of such slices.
-/
import Derived.Deep.Slices
import Derived.Deep.Fields
import Derived.ChangeSame
import Derived.Lib.SmallJoins
import Derived.OpenShut
import Derived.Test.YtaommipcdcncnaaDoorKit
namespace Go.Proofs.YtaommipcdcncnaaDoor.kit
open Go.ChangeShapes Go.WideShapes Go.Deep Go.Joins Go.RowKit
/-- a slice of integers, read in memory -/
def RdI (k : IntKind) (w : World) (A : Option Addr) (n : Nat) (Z : Nat → Int) : Prop :=
  n ≤ maxLen ∧ (0 < n → ∃ b off, A = some ⟨b, off, none⟩ ∧ b < w.heap.size ∧ ∀ i, i < n → w.cell? ⟨b, off + i, none⟩ = some (.int k (Z i)))
theorem RdI.new {k : IntKind} {w w' : World} {A : Option Addr} {n : Nat} {Z : Nat → Int} (h : RdI k w A n Z) (hn : New w w') : RdI k w' A n Z :=
  ⟨h.1, fun h0 => by
    obtain ⟨b, off, hA, hb, hc⟩ := h.2 h0
    exact ⟨b, off, hA, Nat.lt_of_lt_of_le hb hn.size, fun i hi => (hn.cell hb).trans (hc i hi)⟩⟩
/-- a slice of slices of integers, read in memory -/
def RdM (k : IntKind) (w : World) (A : Option Addr) (n : Nat) (R : Nat → Option Addr) (L C : Nat → Nat) (M : Nat → Nat → Int) : Prop :=
  n ≤ maxLen ∧ (0 < n → ∃ b off, A = some ⟨b, off, none⟩ ∧ b < w.heap.size ∧ ∀ i, i < n → w.cell? ⟨b, off + i, none⟩ = some (.slice (R i) (L i) (C i))) ∧
  ∀ i, i < n → RdI k w (R i) (L i) (M i) ∧ L i ≤ C i ∧ C i ≤ maxLen
theorem RdM.new {k : IntKind} {w w' : World} {A : Option Addr} {n : Nat} {R : Nat → Option Addr} {L C : Nat → Nat} {M : Nat → Nat → Int} (h : RdM k w A n R L C M) (hn : New w w') : RdM k w' A n R L C M :=
  ⟨h.1, fun h0 => by
    obtain ⟨b, off, hA, hb, hc⟩ := h.2.1 h0
    exact ⟨b, off, hA, Nat.lt_of_lt_of_le hb hn.size, fun i hi => (hn.cell hb).trans (hc i hi)⟩, fun i hi => ⟨(h.2.2 i hi).1.new hn, (h.2.2 i hi).2⟩⟩
section
variable {H : Type} {enc : TypeId × Value → H} {P : Program} {w : World} {base : Nat} {held : Bool}
theorem open_rowI {t e : TypeId} {k : IntKind} {fuel : Nat} {v : Value} {x : DataW H × List MemPlace} (ht : P.underlying t = some (.slice e)) (he : P.underlying e = some (.int k)) (hc : P.cellsOf e = 1)
    (h : DataW.trod enc P w base (fun _ => true) held fuel t [v] = some x) :
    ∃ (A : Option Addr) (n c : Nat) (Z : Nat → Int), v = .slice A n c ∧ RdI k w A n Z ∧ n ≤ c ∧ c ≤ maxLen ∧ (∀ i, i < n → (Lit.int k (Z i)).wf = true) ∧ (n = 0 ∨ ∃ elems spare, x.1 = .slice elems spare ∧ elems.length = n) := by
  rcases open_ints ht he hc h with ⟨hcs, _⟩ | ⟨a, len, cap, zs, hcs, _, hl, hm, hz, hx, hcell, hwz⟩
  · simp at hcs
    subst hcs
    exact ⟨none, 0, 0, fun _ => 0, rfl, ⟨Nat.zero_le _, fun h => absurd h (Nat.lt_irrefl 0)⟩, Nat.le_refl _, Nat.zero_le _, fun i h => absurd h (Nat.not_lt_zero i), .inl rfl⟩
  · simp at hcs
    subst hcs
    simp at hz
    refine ⟨some a, len, cap, fun i => zs.getD i 0, rfl, ⟨by omega, fun h0 => ?_⟩, hl, hm, fun i hi => ?_, .inr ⟨_, _, congrArg Prod.fst hx, by simp [lits]; omega⟩⟩
    · obtain ⟨b, off, spot⟩ := a
      have hc0 := hcell 0 (by omega)
      have hspot : spot = none := by simpa [Addr.add] using World.cell?_spot hc0
      subst hspot
      refine ⟨b, off, rfl, ?_, fun i hi => ?_⟩
      · have := World.block_lt_of_cell? _ _ hc0
        simpa [Addr.add] using this
      · have h1 := hcell i (by omega)
        rw [add_cell] at h1
        exact h1
    · have hi2 : i < zs.length := by omega
      have : zs.getD i 0 = zs[i] := by simp [hi2]
      show (Lit.int k (zs.getD i 0)).wf = true
      rw [this]
      exact hwz _ (List.getElem_mem hi2)
theorem open_matI {t e f : TypeId} {k : IntKind} {fuel : Nat} {v : Value} {x : DataW H × List MemPlace} (ht : P.underlying t = some (.slice e)) (hc1 : P.cellsOf e = 1) (he : P.underlying e = some (.slice f)) (hf : P.underlying f = some (.int k)) (hc : P.cellsOf f = 1)
    (h : DataW.trod enc P w base (fun _ => true) held fuel t [v] = some x) :
    ∃ (A : Option Addr) (n c : Nat) (R : Nat → Option Addr) (L C : Nat → Nat) (M : Nat → Nat → Int), v = .slice A n c ∧ RdM k w A n R L C M ∧ n ≤ c ∧ c ≤ maxLen ∧ (∀ i, i < n → ∀ j, j < L i → (Lit.int k (M i j)).wf = true) := by
  rcases open_slice ht h with ⟨hcs, _⟩ | ⟨a, len, cap, m, n, D, Pl, hcs, _, hl, hm, hmm, _, hi⟩
  · simp at hcs
    subst hcs
    exact ⟨none, 0, 0, fun _ => none, fun _ => 0, fun _ => 0, fun _ _ => 0, rfl, ⟨Nat.zero_le _, fun h => absurd h (Nat.lt_irrefl 0), fun i h => absurd h (Nat.not_lt_zero i)⟩, Nat.le_refl _, Nat.zero_le _, fun i h => absurd h (Nat.not_lt_zero i)⟩
  · simp at hcs
    subst hcs
    simp at hmm
    subst hmm
    have key : ∀ i, i < len → ∃ q : Option Addr × Nat × Nat × (Nat → Int), w.cell? (a.add i) = some (.slice q.1 q.2.1 q.2.2.1) ∧ RdI k w q.1 q.2.1 q.2.2.2 ∧ q.2.1 ≤ q.2.2.1 ∧ q.2.2.1 ≤ maxLen ∧ (∀ j, j < q.2.1 → (Lit.int k (q.2.2.2 j)).wf = true) := by
      intro i hin
      obtain ⟨cs', hcc, htr⟩ := hi i (by omega)
      rw [hc1] at hcc
      obtain ⟨_, hlen, hat⟩ := World.cells?_some hcc
      obtain ⟨u, rfl⟩ : ∃ u, cs' = [u] := by
        match cs', hlen with
        | [u], _ => exact ⟨u, rfl⟩
      obtain ⟨A', n', c', Z', rfl, h1, h2, h3, h4, _⟩ := open_rowI he hf hc htr
      have h0 := hat 0 (by omega)
      refine ⟨⟨A', n', c', Z'⟩, ?_, h1, h2, h3, h4⟩
      have : (a.add (i * 1)).add 0 = a.add i := by rw [Go.Deep.add_add]; simp
      rw [this] at h0
      simpa using h0
    have hq : ∃ q : Nat → Option Addr × Nat × Nat × (Nat → Int), ∀ i, i < len → w.cell? (a.add i) = some (.slice (q i).1 (q i).2.1 (q i).2.2.1) ∧ RdI k w (q i).1 (q i).2.1 (q i).2.2.2 ∧ (q i).2.1 ≤ (q i).2.2.1 ∧ (q i).2.2.1 ≤ maxLen ∧ (∀ j, j < (q i).2.1 → (Lit.int k ((q i).2.2.2 j)).wf = true) := by
      refine ⟨fun i => if h : i < len then (key i h).choose else (none, 0, 0, fun _ => 0), fun i hin => ?_⟩
      simp only [hin, dif_pos]
      exact (key i hin).choose_spec
    obtain ⟨q, hq⟩ := hq
    refine ⟨some a, len, _, fun i => (q i).1, fun i => (q i).2.1, fun i => (q i).2.2.1, fun i => (q i).2.2.2, rfl, ⟨by omega, fun h0 => ?_, fun i hin => ⟨(hq i hin).2.1, (hq i hin).2.2.1, (hq i hin).2.2.2.1⟩⟩, hl, hm, fun i hin => (hq i hin).2.2.2.2⟩
    obtain ⟨b, off, spot⟩ := a
    have hc0 := (hq 0 h0).1
    have hspot : spot = none := by simpa [Addr.add] using World.cell?_spot hc0
    subst hspot
    refine ⟨b, off, rfl, ?_, fun i hin => ?_⟩
    · have := World.block_lt_of_cell? _ _ hc0
      simpa [Addr.add] using this
    · have h1 := (hq i hin).1
      rw [add_cell] at h1
      exact h1
end
end Go.Proofs.YtaommipcdcncnaaDoor.kit
