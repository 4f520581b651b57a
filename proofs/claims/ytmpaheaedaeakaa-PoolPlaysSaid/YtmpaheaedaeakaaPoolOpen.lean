/-
  Arguments of the type []api.Command.
-/
import Derived.Test.YtmpaheaedaeakaaPoolPlay
import Derived.Test.YtmpaheaedaeakaaOpen
import Derived.Deep.Slices
import Derived.SizedLaws
namespace Go.Proofs.Ytmpaheaedaeakaa.pool
open Go.ChangeShapes Go.WideShapes Go.ChangeAt Go.RowKit Go.Proofs.Ytmpaheaedaeakaa.kit Go.Joins Go.Deep
set_option linter.unusedVariables false
theorem cellsCommand : Try.prog.cellsOf 34 = 8 := by kernel_rfl
theorem list8 (l : List Value) (h : l.length = 8) : ∃ a0 a1 a2 a3 a4 a5 a6 a7, l = [a0, a1, a2, a3, a4, a5, a6, a7] := by
  match l, h with
  | [a0, a1, a2, a3, a4, a5, a6, a7], _ => exact ⟨_, _, _, _, _, _, _, _, rfl⟩
section
variable {H : Type} {enc : TypeId × Value → H} {P : Program} {w : World} {base spare : Nat} {held : Bool}
theorem str_of {t : TypeId} {sp : Nat → Bool} {fuel : Nat} {v : Value} {y : DataW H × List MemPlace} (ht : P.underlying t = some .string) (h : DataW.trod enc P w base sp held fuel t [v] = some y) : ∃ x : Nm, v = encStr x ∧ x.length ≤ maxLen := by
  obtain ⟨s, hs, _, hl⟩ := DataW.trod_string ht h
  simp at hs
  subst hs
  exact ⟨s.data.toList, by simp [encStr], by simpa using hl⟩
end
set_option maxRecDepth 100000 in
theorem open_commands {H : Type} {enc : TypeId × Value → H} {W : World} {base : Nat} {v : Value} {d : DataW H} {p : List MemPlace} (ok : Value.okWide Try.prog W .any base 22 v)
    (h : DataW.Trod enc Try.prog W 0 (fun _ => true) true 22 v d p) :
    ∃ (A : Option Addr) (n c : Nat) (Cs : Nat → Cm) (dr kp : Nat → Int) (R : Nat → Option Addr) (dc : Nat → Nat), v = .slice A n c ∧ RdC W A n Cs dr kp R dc := by
  obtain ⟨A, n, c, rfl⟩ := okWide_slice Try.underlying22 ok
  obtain ⟨fuel, hf⟩ := h
  rcases open_slice Try.underlying22 hf with ⟨hcs, _⟩ | ⟨a, len, cap, m, n', D, Pl, hcs, _, hl, hm, hmm, _, hi⟩
  · simp [Value.cells] at hcs
    obtain ⟨rfl, rfl, rfl⟩ := hcs
    exact ⟨none, 0, 0, fun _ => ⟨0, [], [], 0, 0, 0, fun _ => 0⟩, fun _ => 0, fun _ => 0, fun _ => none, fun _ => 0, rfl, ⟨Nat.zero_le _, fun h => absurd h (Nat.lt_irrefl 0), fun i h => absurd h (Nat.not_lt_zero i)⟩⟩
  · simp [Value.cells] at hcs
    obtain ⟨rfl, rfl, rfl⟩ := hcs
    simp at hmm
    subst hmm
    have cs1 : Try.prog.cellsOf 31 = 1 := by kernel_rfl
    have c1 : Try.prog.cellsOf 3 = 1 := by kernel_rfl
    have st1 : Try.prog.cellsOf 9 = 1 := by kernel_rfl
    have key : ∀ i, i < n → ∃ q : (Int × Nm × Nm × Int × Int × Int × Int) × Option Addr × Nat × Nat × (Nat → Int), W.cell? ((a.add (i * 8)).add 0) = some (.int .i64 q.1.1) ∧ W.cell? ((a.add (i * 8)).add 1) = some (encStr q.1.2.1) ∧ W.cell? ((a.add (i * 8)).add 2) = some (encStr q.1.2.2.1) ∧ W.cell? ((a.add (i * 8)).add 3) = some (.int .i64 q.1.2.2.2.1) ∧ W.cell? ((a.add (i * 8)).add 4) = some (.int .i64 q.1.2.2.2.2.1) ∧ W.cell? ((a.add (i * 8)).add 5) = some (.int .i64 q.1.2.2.2.2.2.1) ∧ W.cell? ((a.add (i * 8)).add 6) = some (.int .i64 q.1.2.2.2.2.2.2) ∧ W.cell? ((a.add (i * 8)).add 7) = some (.slice q.2.1 q.2.2.1 q.2.2.2.1) ∧ RdI .u8 W q.2.1 q.2.2.1 q.2.2.2.2 ∧ q.2.2.1 ≤ q.2.2.2.1 ∧ q.2.2.2.1 ≤ maxLen ∧ (∀ j, j < q.2.2.1 → (Lit.int .u8 (q.2.2.2.2 j)).wf = true) ∧ q.1.2.1.length ≤ maxLen ∧ q.1.2.2.1.length ≤ maxLen ∧ q.1.2.2.2.1 ≤ 9223372036854775807 ∧ q.1.2.2.2.2.1 ≤ 9223372036854775807 := by
      intro i hin
      obtain ⟨cs', hcc, htr⟩ := hi i (by omega)
      rw [cellsCommand] at hcc
      obtain ⟨_, hlen, hat⟩ := World.cells?_some hcc
      obtain ⟨a0, a1, a2, a3, a4, a5, a6, a7, rfl⟩ := list8 cs' hlen
      obtain ⟨_, _, t0⟩ := field_at Try.underlying34 htr 0 3 0 1 [a0] ⟨_, rfl, rfl, rfl⟩ c1 rfl
      obtain ⟨x0, rfl, b0⟩ := int_of Try.underlying3 t0
      obtain ⟨_, _, t1⟩ := field_at Try.underlying34 htr 1 9 1 1 [a1] ⟨_, rfl, rfl, rfl⟩ st1 rfl
      obtain ⟨x1, rfl, b1⟩ := str_of Try.underlying9 t1
      obtain ⟨_, _, t2⟩ := field_at Try.underlying34 htr 2 9 2 1 [a2] ⟨_, rfl, rfl, rfl⟩ st1 rfl
      obtain ⟨x2, rfl, b2⟩ := str_of Try.underlying9 t2
      obtain ⟨_, _, t3⟩ := field_at Try.underlying34 htr 3 3 3 1 [a3] ⟨_, rfl, rfl, rfl⟩ c1 rfl
      obtain ⟨x3, rfl, b3⟩ := int_of Try.underlying3 t3
      obtain ⟨_, _, t4⟩ := field_at Try.underlying34 htr 4 3 4 1 [a4] ⟨_, rfl, rfl, rfl⟩ c1 rfl
      obtain ⟨x4, rfl, b4⟩ := int_of Try.underlying3 t4
      obtain ⟨_, _, t5⟩ := field_at Try.underlying34 htr 5 3 5 1 [a5] ⟨_, rfl, rfl, rfl⟩ c1 rfl
      obtain ⟨x5, rfl, b5⟩ := int_of Try.underlying3 t5
      obtain ⟨_, _, t6⟩ := field_at Try.underlying34 htr 6 3 6 1 [a6] ⟨_, rfl, rfl, rfl⟩ c1 rfl
      obtain ⟨x6, rfl, b6⟩ := int_of Try.underlying3 t6
      obtain ⟨_, _, t7⟩ := field_at Try.underlying34 htr 7 31 7 1 [a7] ⟨_, rfl, rfl, rfl⟩ cs1 rfl
      obtain ⟨A', n', c', Z', rfl, h1, h2, h3, h4, _⟩ := open_rowI Try.underlying31 Try.underlying5 (by kernel_rfl) t7
      exact ⟨⟨⟨x0, x1, x2, x3, x4, x5, x6⟩, A', n', c', Z'⟩, hat 0 (by omega), hat 1 (by omega), hat 2 (by omega), hat 3 (by omega), hat 4 (by omega), hat 5 (by omega), hat 6 (by omega), hat 7 (by omega), h1, h2, h3, h4, b1, b2, (bounds_i64 b3).2, (bounds_i64 b4).2⟩
    have hF : ∃ q : Nat → (Int × Nm × Nm × Int × Int × Int × Int) × Option Addr × Nat × Nat × (Nat → Int), ∀ i, i < n → W.cell? ((a.add (i * 8)).add 0) = some (.int .i64 (q i).1.1) ∧ W.cell? ((a.add (i * 8)).add 1) = some (encStr (q i).1.2.1) ∧ W.cell? ((a.add (i * 8)).add 2) = some (encStr (q i).1.2.2.1) ∧ W.cell? ((a.add (i * 8)).add 3) = some (.int .i64 (q i).1.2.2.2.1) ∧ W.cell? ((a.add (i * 8)).add 4) = some (.int .i64 (q i).1.2.2.2.2.1) ∧ W.cell? ((a.add (i * 8)).add 5) = some (.int .i64 (q i).1.2.2.2.2.2.1) ∧ W.cell? ((a.add (i * 8)).add 6) = some (.int .i64 (q i).1.2.2.2.2.2.2) ∧ W.cell? ((a.add (i * 8)).add 7) = some (.slice (q i).2.1 (q i).2.2.1 (q i).2.2.2.1) ∧ RdI .u8 W (q i).2.1 (q i).2.2.1 (q i).2.2.2.2 ∧ (q i).2.2.1 ≤ (q i).2.2.2.1 ∧ (q i).2.2.2.1 ≤ maxLen ∧ (∀ j, j < (q i).2.2.1 → (Lit.int .u8 ((q i).2.2.2.2 j)).wf = true) ∧ (q i).1.2.1.length ≤ maxLen ∧ (q i).1.2.2.1.length ≤ maxLen ∧ (q i).1.2.2.2.1 ≤ 9223372036854775807 ∧ (q i).1.2.2.2.2.1 ≤ 9223372036854775807 := by
      refine ⟨fun i => if h : i < n then (key i h).choose else ((0, [], [], 0, 0, 0, 0), none, 0, 0, fun _ => 0), fun i hin => ?_⟩
      simp only [hin, dif_pos]
      exact (key i hin).choose_spec
    obtain ⟨q, hq⟩ := hF
    refine ⟨some a, n, _, fun i => ⟨(q i).1.1, (q i).1.2.1, (q i).1.2.2.1, (q i).1.2.2.2.1, (q i).1.2.2.2.2.1, (q i).2.2.1, fun k => ((q i).2.2.2.2 k).toNat⟩, fun i => (q i).1.2.2.2.2.2.1, fun i => (q i).1.2.2.2.2.2.2, fun i => (q i).2.1, fun i => (q i).2.2.2.1, rfl, ⟨by omega, fun h0 => ?_, fun i hin => ?_⟩⟩
    · obtain ⟨b, off, spot⟩ := a
      have hc0 := (hq 0 h0).1
      have hspot : spot = none := by simpa [Addr.add] using World.cell?_spot hc0
      subst hspot
      refine ⟨b, off, rfl, ?_, fun i hin => ?_⟩
      · have := World.block_lt_of_cell? _ _ hc0
        simpa [Addr.add] using this
      · obtain ⟨h1, h2, h3, h4, h5, h6, h7, h8, _⟩ := hq i hin
        simp only [add_cell] at h1 h2 h3 h4 h5 h6 h7 h8
        exact ⟨h1, h2, h3, h4, h5, h6, h7, h8⟩
    · obtain ⟨_, _, _, _, _, _, _, _, h3, h4, h5, h6, h7, h8, h9, h10⟩ := hq i hin
      refine ⟨h7, h8, h9, h10, ⟨h3.1, fun h0 => ?_⟩, h5⟩
      obtain ⟨b, off, e1, e2, e3⟩ := h3.2 h0
      refine ⟨b, off, e1, e2, fun k hk => ?_⟩
      rw [e3 k hk]
      have := bounds_u8 (h6 k hk)
      dsimp only
      congr 2
      omega
end Go.Proofs.Ytmpaheaedaeakaa.pool
