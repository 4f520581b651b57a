/-
  Arguments of the type []api.Record.
-/
import Derived.Test.YthjjchlibbheaaaOpen
import Derived.Test.YthjjchlibbheaaaSpaceAgain
import Derived.Deep.Slices
namespace Go.Proofs.Ythjjchlibbheaaa.space
open Go.ChangeShapes Go.WideShapes Go.ChangeAt Go.RowKit Go.Proofs.Ythjjchlibbheaaa.kit Go.Joins Go.Deep
theorem cellsRecord : Try.prog.cellsOf 77 = 3 := by kernel_rfl
theorem list3 (l : List Value) (h : l.length = 3) : ∃ a0 a1 a2, l = [a0, a1, a2] := by
  match l, h with
  | [a0, a1, a2], _ => exact ⟨_, _, _, rfl⟩
set_option maxRecDepth 100000 in
theorem open_records {H : Type} {enc : TypeId × Value → H} {W : World} {base : Nat} {v : Value} {d : DataW H} {p : List MemPlace} (ok : Value.okWide Try.prog W .any base 22 v)
    (h : DataW.Trod enc Try.prog W 0 (fun _ => true) true 22 v d p) :
    ∃ (A : Option Addr) (n c : Nat) (B : Nat → Bool) (F T : Nat → Int), v = .slice A n c ∧ RdR W A n B F T := by
  obtain ⟨A, n, c, rfl⟩ := okWide_slice Try.underlying22 ok
  obtain ⟨fuel, hf⟩ := h
  rcases open_slice Try.underlying22 hf with ⟨hcs, _⟩ | ⟨a, len, cap, m, n', D, Pl, hcs, _, hl, hm, hmm, _, hi⟩
  · simp [Value.cells] at hcs
    obtain ⟨rfl, rfl, rfl⟩ := hcs
    exact ⟨none, 0, 0, fun _ => false, fun _ => 0, fun _ => 0, rfl, ⟨Nat.zero_le _, fun h => absurd h (Nat.lt_irrefl 0)⟩⟩
  · simp [Value.cells] at hcs
    obtain ⟨rfl, rfl, rfl⟩ := hcs
    simp at hmm
    subst hmm
    have c1 : Try.prog.cellsOf 3 = 1 := by kernel_rfl
    have cb : Try.prog.cellsOf 4 = 1 := by kernel_rfl
    have c2 : Try.prog.cellsOf 75 = 2 := by kernel_rfl
    have key : ∀ i, i < n → ∃ q : Bool × Int × Int, W.cell? ((a.add (i * 3)).add 0) = some (.bool q.1) ∧ W.cell? ((a.add (i * 3)).add 1) = some (.int .i64 q.2.1) ∧ W.cell? ((a.add (i * 3)).add 2) = some (.int .i64 q.2.2) := by
      intro i hin
      obtain ⟨cs', hcc, htr⟩ := hi i (by omega)
      rw [cellsRecord] at hcc
      obtain ⟨_, hlen, hat⟩ := World.cells?_some hcc
      obtain ⟨a0, a1, a2, rfl⟩ := list3 cs' hlen
      obtain ⟨_, _, t0⟩ := field_at Try.underlying77 htr 0 4 0 1 [a0] ⟨_, rfl, rfl, rfl⟩ cb rfl
      obtain ⟨x0, e0, _⟩ := DataW.trod_bool Try.underlying4 t0
      simp at e0
      subst e0
      obtain ⟨_, _, tp⟩ := field_at Try.underlying77 htr 1 75 1 2 [a1, a2] ⟨_, rfl, rfl, rfl⟩ c2 rfl
      obtain ⟨_, _, t1⟩ := field_at Try.underlying75 tp 0 3 0 1 [a1] ⟨_, rfl, rfl, rfl⟩ c1 rfl
      obtain ⟨x1, rfl, _⟩ := int_of Try.underlying3 t1
      obtain ⟨_, _, t2⟩ := field_at Try.underlying75 tp 1 3 1 1 [a2] ⟨_, rfl, rfl, rfl⟩ c1 rfl
      obtain ⟨x2, rfl, _⟩ := int_of Try.underlying3 t2
      exact ⟨⟨x0, x1, x2⟩, hat 0 (by omega), hat 1 (by omega), hat 2 (by omega)⟩
    have hF : ∃ q : Nat → Bool × Int × Int, ∀ i, i < n → W.cell? ((a.add (i * 3)).add 0) = some (.bool (q i).1) ∧ W.cell? ((a.add (i * 3)).add 1) = some (.int .i64 (q i).2.1) ∧ W.cell? ((a.add (i * 3)).add 2) = some (.int .i64 (q i).2.2) := by
      refine ⟨fun i => if h : i < n then (key i h).choose else (false, 0, 0), fun i hin => ?_⟩
      simp only [hin, dif_pos]
      exact (key i hin).choose_spec
    obtain ⟨q, hq⟩ := hF
    refine ⟨some a, n, _, fun i => (q i).1, fun i => (q i).2.1, fun i => (q i).2.2, rfl, ⟨by omega, fun h0 => ?_⟩⟩
    obtain ⟨b, off, spot⟩ := a
    have hc0 := (hq 0 h0).1
    have hspot : spot = none := by simpa [Addr.add] using World.cell?_spot hc0
    subst hspot
    refine ⟨b, off, rfl, ?_, fun i hin => ?_⟩
    · have := lt_of_cell hc0
      simpa [Addr.add] using this
    · obtain ⟨h1, h2, h3⟩ := hq i hin
      simp only [add_cell] at h1 h2 h3
      exact ⟨h1, h2, h3⟩
end Go.Proofs.Ythjjchlibbheaaa.space
