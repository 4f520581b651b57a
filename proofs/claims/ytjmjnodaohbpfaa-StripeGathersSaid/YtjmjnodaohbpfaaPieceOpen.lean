/-
  Arguments of the type []api.Piece.
-/
import Derived.Test.YtjmjnodaohbpfaaOpen
import Derived.Test.YtjmjnodaohbpfaaGatherAll
import Derived.Deep.Slices
namespace Go.Proofs.Ytjmjnodaohbpfaa.stripe
open Go.ChangeShapes Go.WideShapes Go.ChangeAt Go.RowKit Go.Proofs.Ytjmjnodaohbpfaa.kit Go.Joins Go.Deep
theorem cellsPiece : Try.prog.cellsOf 65 = 2 := by kernel_rfl
theorem list2 (l : List Value) (h : l.length = 2) : ∃ a0 a1, l = [a0, a1] := by
  match l, h with
  | [a0, a1], _ => exact ⟨_, _, rfl⟩
set_option maxRecDepth 100000 in
theorem open_pieces {H : Type} {enc : TypeId × Value → H} {W : World} {base : Nat} {v : Value} {d : DataW H} {p : List MemPlace} (ok : Value.okWide Try.prog W .any base 36 v)
    (h : DataW.Trod enc Try.prog W 0 (fun _ => true) true 36 v d p) :
    ∃ (A : Option Addr) (n c : Nat) (Ls : Nat → Bool) (R : Nat → Option Addr) (L C : Nat → Nat) (D : Nat → Nat → Nat), v = .slice A n c ∧ RdP W A n Ls R L C D := by
  obtain ⟨A, n, c, rfl⟩ := okWide_slice Try.underlying36 ok
  obtain ⟨fuel, hf⟩ := h
  rcases open_slice Try.underlying36 hf with ⟨hcs, _⟩ | ⟨a, len, cap, m, n', D, Pl, hcs, _, hl, hm, hmm, _, hi⟩
  · simp [Value.cells] at hcs
    obtain ⟨rfl, rfl, rfl⟩ := hcs
    exact ⟨none, 0, 0, fun _ => false, fun _ => none, fun _ => 0, fun _ => 0, fun _ _ => 0, rfl, ⟨Nat.zero_le _, fun h => absurd h (Nat.lt_irrefl 0), fun i h => absurd h (Nat.not_lt_zero i)⟩⟩
  · simp [Value.cells] at hcs
    obtain ⟨rfl, rfl, rfl⟩ := hcs
    simp at hmm
    subst hmm
    have cs1 : Try.prog.cellsOf 32 = 1 := by kernel_rfl
    have cb : Try.prog.cellsOf 4 = 1 := by kernel_rfl
    have key : ∀ i, i < n → ∃ q : Bool × Option Addr × Nat × Nat × (Nat → Int), W.cell? ((a.add (i * 2)).add 0) = some (.bool q.1) ∧ W.cell? ((a.add (i * 2)).add 1) = some (.slice q.2.1 q.2.2.1 q.2.2.2.1) ∧ RdI .u8 W q.2.1 q.2.2.1 q.2.2.2.2 ∧ q.2.2.1 ≤ q.2.2.2.1 ∧ q.2.2.2.1 ≤ maxLen ∧ ∀ j, j < q.2.2.1 → (Lit.int .u8 (q.2.2.2.2 j)).wf = true := by
      intro i hin
      obtain ⟨cs', hcc, htr⟩ := hi i (by omega)
      rw [cellsPiece] at hcc
      obtain ⟨_, hlen, hat⟩ := World.cells?_some hcc
      obtain ⟨a0, a1, rfl⟩ := list2 cs' hlen
      obtain ⟨_, _, t0⟩ := field_at Try.underlying65 htr 0 4 0 1 [a0] ⟨_, rfl, rfl, rfl⟩ cb rfl
      obtain ⟨x0, e0, _⟩ := DataW.trod_bool Try.underlying4 t0
      simp at e0
      subst e0
      obtain ⟨_, _, t1⟩ := field_at Try.underlying65 htr 1 32 1 1 [a1] ⟨_, rfl, rfl, rfl⟩ cs1 rfl
      obtain ⟨A', n', c', Z', rfl, h1, h2, h3, h4, _⟩ := open_rowI Try.underlying32 Try.underlying5 (by kernel_rfl) t1
      exact ⟨⟨x0, A', n', c', Z'⟩, hat 0 (by omega), hat 1 (by omega), h1, h2, h3, h4⟩
    have hF : ∃ q : Nat → Bool × Option Addr × Nat × Nat × (Nat → Int), ∀ i, i < n → W.cell? ((a.add (i * 2)).add 0) = some (.bool (q i).1) ∧ W.cell? ((a.add (i * 2)).add 1) = some (.slice (q i).2.1 (q i).2.2.1 (q i).2.2.2.1) ∧ RdI .u8 W (q i).2.1 (q i).2.2.1 (q i).2.2.2.2 ∧ (q i).2.2.1 ≤ (q i).2.2.2.1 ∧ (q i).2.2.2.1 ≤ maxLen ∧ ∀ j, j < (q i).2.2.1 → (Lit.int .u8 ((q i).2.2.2.2 j)).wf = true := by
      refine ⟨fun i => if h : i < n then (key i h).choose else (false, none, 0, 0, fun _ => 0), fun i hin => ?_⟩
      simp only [hin, dif_pos]
      exact (key i hin).choose_spec
    obtain ⟨q, hq⟩ := hF
    refine ⟨some a, n, _, fun i => (q i).1, fun i => (q i).2.1, fun i => (q i).2.2.1, fun i => (q i).2.2.2.1, fun i k => if i < n ∧ k < (q i).2.2.1 then ((q i).2.2.2.2 k).toNat else 0, rfl, ⟨by omega, fun h0 => ?_, fun i hin => ?_⟩⟩
    · obtain ⟨b, off, spot⟩ := a
      have hc0 := (hq 0 h0).1
      have hspot : spot = none := by simpa [Addr.add] using World.cell?_spot hc0
      subst hspot
      refine ⟨b, off, rfl, ?_, fun i hin => ?_⟩
      · have := World.block_lt_of_cell? _ _ hc0
        simpa [Addr.add] using this
      · obtain ⟨h1, h2, _⟩ := hq i hin
        simp only [add_cell] at h1 h2
        exact ⟨h1, h2⟩
    · obtain ⟨_, _, h3, h4, h5, h6⟩ := hq i hin
      have hb : ∀ k, k < (q i).2.2.1 → 0 ≤ (q i).2.2.2.2 k ∧ (q i).2.2.2.2 k ≤ 255 := fun k hk => bounds_u8 (h6 k hk)
      refine ⟨⟨h3.1, fun h0 => ?_⟩, h4, h5, fun k => ?_⟩
      · obtain ⟨b, off, e1, e2, e3⟩ := h3.2 h0
        refine ⟨b, off, e1, e2, fun k hk => ?_⟩
        rw [e3 k hk]
        have := hb k hk
        simp only [if_pos (show i < n ∧ k < (q i).2.2.1 from ⟨hin, hk⟩)]
        congr 2
        omega
      · by_cases hk : k < (q i).2.2.1
        · have := hb k hk
          simp only [if_pos (show i < n ∧ k < (q i).2.2.1 from ⟨hin, hk⟩)]
          omega
        · simp only [if_neg (show ¬ (i < n ∧ k < (q i).2.2.1) from fun h => hk h.2)]
          omega
end Go.Proofs.Ytjmjnodaohbpfaa.stripe
