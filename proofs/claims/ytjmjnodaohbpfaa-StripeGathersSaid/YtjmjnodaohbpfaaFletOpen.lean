/-
  Arguments of the types []byte, api.Sum.
-/
import Derived.Test.YtjmjnodaohbpfaaOpen
import Derived.Test.YtjmjnodaohbpfaaFlet
namespace Go.Proofs.Ytjmjnodaohbpfaa.flet
open Go.ChangeShapes Go.WideShapes Go.ChangeAt Go.RowKit Go.Proofs.Ytjmjnodaohbpfaa.kit Go.Joins Go.Deep
set_option maxRecDepth 100000 in
theorem open_bytes {H : Type} {enc : TypeId × Value → H} {W : World} {base : Nat} {v : Value} {d : DataW H} {p : List MemPlace} (ok : Value.okWide Try.prog W .any base 32 v)
    (h : DataW.Trod enc Try.prog W 0 (fun _ => true) true 32 v d p) :
    ∃ (A : Option Addr) (n c : Nat) (B : Nat → Nat), v = .slice A n c ∧ RdB W A n B ∧ n ≤ c ∧ c ≤ maxLen ∧ (n = 0 ∨ ∃ elems spare, d = .slice elems spare ∧ elems.length = n) := by
  obtain ⟨A, n, c, rfl⟩ := okWide_slice Try.underlying32 ok
  obtain ⟨fuel, hf⟩ := h
  rcases open_ints Try.underlying32 Try.underlying5 (by kernel_rfl) hf with ⟨hcs, _⟩ | ⟨a, len, cap, zs, hcs, _, hl, hm, hz, hx, hcell, hwz⟩
  · simp [Value.cells] at hcs
    obtain ⟨rfl, rfl, rfl⟩ := hcs
    exact ⟨none, 0, 0, fun _ => 0, rfl, ⟨Nat.zero_le _, fun i h => absurd h (Nat.not_lt_zero i), fun h => absurd h (Nat.lt_irrefl 0)⟩, Nat.le_refl _, Nat.zero_le _, .inl rfl⟩
  · simp [Value.cells] at hcs
    obtain ⟨rfl, rfl, rfl⟩ := hcs
    simp at hz
    have hb : ∀ i, i < n → 0 ≤ zs.getD i 0 ∧ zs.getD i 0 ≤ 255 := fun i hi => by
      have hi2 : i < zs.length := by omega
      have : zs.getD i 0 = zs[i] := by simp [hi2]
      rw [this]
      exact bounds_u8 (hwz _ (List.getElem_mem hi2))
    refine ⟨some a, n, c, fun i => (zs.getD i 0).toNat, rfl, ⟨by omega, fun i hi => by have := hb i hi; show (zs.getD i 0).toNat < 256; omega, fun h0 => ?_⟩, hl, hm, .inr ⟨_, _, congrArg Prod.fst hx, by simp [lits]; omega⟩⟩
    obtain ⟨b, off, spot⟩ := a
    have hc0 := hcell 0 (by omega)
    have hspot : spot = none := by simpa [Addr.add] using World.cell?_spot hc0
    subst hspot
    refine ⟨b, off, rfl, ?_, fun i hi => ?_⟩
    · have := lt_of_cell hc0
      simpa [Addr.add] using this
    · have h1 := hcell i (by omega)
      rw [add_cell] at h1
      have h2 := hb i hi
      rw [h1]
      show some (Value.int .u8 (zs.getD i 0)) = some (.int .u8 ((zs.getD i 0).toNat : Int))
      rw [Int.toNat_of_nonneg h2.1]
set_option maxRecDepth 100000 in
theorem open_sum {H : Type} {enc : TypeId × Value → H} {W : World} {base : Nat} {v : Value} {d : DataW H} {p : List MemPlace} (ok : Value.okWide Try.prog W .any base 38 v)
    (h : DataW.Trod enc Try.prog W 0 (fun _ => true) true 38 v d p) : ∃ a b c e : Int, v = four a b c e ∧ (Lit.int .i64 a).wf = true ∧ (Lit.int .i64 b).wf = true ∧ (Lit.int .i64 c).wf = true ∧ (Lit.int .i64 e).wf = true := by
  obtain ⟨c0, c1, c2, c3, y0, y1, y2, y3, m, rfl, rfl, rfl, h0, h1, h2, h3⟩ := open_agg4 Try.underlying38 (by kernel_rfl) (by kernel_rfl) ok h
  obtain ⟨x0, rfl, w0⟩ := int_of Try.underlying3 h0
  obtain ⟨x1, rfl, w1⟩ := int_of Try.underlying3 h1
  obtain ⟨x2, rfl, w2⟩ := int_of Try.underlying3 h2
  obtain ⟨x3, rfl, w3⟩ := int_of Try.underlying3 h3
  exact ⟨x0, x1, x2, x3, rfl, w0, w1, w2, w3⟩
end Go.Proofs.Ytjmjnodaohbpfaa.flet
