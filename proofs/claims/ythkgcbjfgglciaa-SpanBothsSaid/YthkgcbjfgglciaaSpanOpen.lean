/-
  Arguments of the type []api.Range, api.Range.
-/
import Derived.Test.YthkgcbjfgglciaaOpen
import Derived.Test.YthkgcbjfgglciaaSpanRead
namespace Go.Proofs.Ythkgcbjfgglciaa.span
open Go.ChangeShapes Go.WideShapes Go.ChangeAt Go.RowKit Go.Proofs.Ythkgcbjfgglciaa.kit Go.Joins Go.Deep
theorem cellsRange : Try.prog.cellsOf 30 = 2 := by kernel_rfl
set_option maxRecDepth 100000 in
theorem open_ranges {H : Type} {enc : TypeId × Value → H} {W : World} {base : Nat} {v : Value} {d : DataW H} {p : List MemPlace} (ok : Value.okWide Try.prog W .any base 22 v)
    (h : DataW.Trod enc Try.prog W 0 (fun _ => true) true 22 v d p) :
    ∃ (A : Option Addr) (n c : Nat) (F T : Nat → Int), v = .slice A n c ∧ Rd W A n F T ∧ ∀ i, i < n → (-9223372036854775808 ≤ F i ∧ F i ≤ 9223372036854775807) ∧ -9223372036854775808 ≤ T i ∧ T i ≤ 9223372036854775807 := by
  obtain ⟨A, n, c, rfl⟩ := okWide_slice Try.underlying22 ok
  have hlt : ∀ x ∈ p, x.block < W.heap.size := by obtain ⟨m, hm⟩ := h; exact DataW.trod_lt m _ _ _ hm
  obtain ⟨fuel, hf⟩ := h
  rcases open_slice_fields Try.underlying22 Try.underlying30 (by kernel_rfl) cellsRange hf with ⟨hcs, _⟩ | ⟨a, len, cap, m, D, Pl, hcs, _, hl, hm, hmm, hx, hi⟩
  · simp [Value.cells] at hcs
    obtain ⟨rfl, rfl, rfl⟩ := hcs
    exact ⟨none, 0, 0, fun _ => 0, fun _ => 0, rfl, ⟨Nat.zero_le _, fun h => absurd h (Nat.lt_irrefl 0)⟩, fun i h => absurd h (Nat.not_lt_zero i)⟩
  · simp [Value.cells] at hcs
    obtain ⟨rfl, rfl, rfl⟩ := hcs
    simp at hmm
    subst hmm
    have key : ∀ i, i < n → ∃ f t : Int, W.cell? (a.add (i * 2 + 0)) = some (.int .i64 f) ∧ W.cell? (a.add (i * 2 + 1)) = some (.int .i64 t) ∧ (Lit.int .i64 f).wf = true ∧ (Lit.int .i64 t).wf = true := by
      intro i hin
      obtain ⟨ys, n', _, _, _, hf⟩ := hi i (by omega)
      obtain ⟨v0, y0, c0, _, t0⟩ := hf 0 _ rfl
      obtain ⟨v1, y1, c1, _, t1⟩ := hf 1 _ rfl
      obtain ⟨x0, e0, _, w0⟩ := DataW.trod_int Try.underlying3 t0
      obtain ⟨x1, e1, _, w1⟩ := DataW.trod_int Try.underlying3 t1
      simp at e0 e1
      subst e0 e1
      exact ⟨x0, x1, c0, c1, w0, w1⟩
    have hF : ∃ F : Nat → Int, ∃ T : Nat → Int, ∀ i, i < n → W.cell? (a.add (i * 2 + 0)) = some (.int .i64 (F i)) ∧ W.cell? (a.add (i * 2 + 1)) = some (.int .i64 (T i)) ∧ (Lit.int .i64 (F i)).wf = true ∧ (Lit.int .i64 (T i)).wf = true := by
      refine ⟨fun i => if h : i < n then (key i h).choose else 0, fun i => if h : i < n then (key i h).choose_spec.choose else 0, fun i hin => ?_⟩
      simp only [hin, dif_pos]
      exact (key i hin).choose_spec.choose_spec
    obtain ⟨F, T, hFT⟩ := hF
    refine ⟨some a, n, _, F, T, rfl, ⟨by omega, fun h0 => ?_⟩, fun i hin => ⟨bounds_i64 (hFT i hin).2.2.1, bounds_i64 (hFT i hin).2.2.2⟩⟩
    obtain ⟨b, off, spot⟩ := a
    have hc0 := (hFT 0 h0).1
    have hspot : spot = none := by simpa [Addr.add] using World.cell?_spot hc0
    subst hspot
    refine ⟨b, off, rfl, ?_, fun i hin => ?_⟩
    · have := lt_of_cell hc0
      simpa [Addr.add] using this
    · have h1 := (hFT i hin).1
      have h2 := (hFT i hin).2.1
      rw [add_cell] at h1 h2
      exact ⟨h1, h2⟩
end Go.Proofs.Ythkgcbjfgglciaa.span
