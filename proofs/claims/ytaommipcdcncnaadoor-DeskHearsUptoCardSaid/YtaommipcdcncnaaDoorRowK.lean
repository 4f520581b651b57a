/-
  A block of numbers of one kind: the first ones known.
-/
import Derived.Test.YtaommipcdcncnaaDoorCopyRow
namespace Go.Proofs.YtaommipcdcncnaaDoor.kit
open Go.RowKit Go.Deep
set_option linter.unusedVariables false
def RowK (t : TypeId) (k : IntKind) (w : World) (g m : Nat) (f : Nat → Nat) : Prop := ∃ cs : Array Value, w.heap[g]? = some (.cells cs t (0, 0)) ∧ ∀ j, j < m → cs[j]? = some (.int k (f j : Nat))
/-- the numbers, listed -/
def numL (k : IntKind) (f : Nat → Nat) (m : Nat) : List Value := (List.range m).map fun j => .int k (f j : Nat)
theorem numL_len (k : IntKind) (f : Nat → Nat) (m : Nat) : (numL k f m).length = m := by simp [numL]
theorem numL_one (k : IntKind) (f : Nat → Nat) (m : Nat) : ∀ u ∈ numL k f m, u.oneCell' = true := fun u hu => by
  obtain ⟨j, _, rfl⟩ := List.mem_map.1 hu
  simp [Value.oneCell']
theorem numL_src {w : World} {k : IntKind} {b off m : Nat} {f : Nat → Nat} (h : ∀ j, j < m → w.cell? ⟨b, off + j, none⟩ = some (.int k (f j : Nat))) : ∀ j u, (numL k f m)[j]? = some u → w.cell? ((⟨b, off, none⟩ : Addr).add j) = some u := fun j u hu => by
  have hj : j < m := by
    have := (List.getElem?_eq_some_iff.1 hu).1
    simpa [numL] using this
  rw [add_cell, h j hj]
  simpa [numL, hj] using hu
section
variable {t : TypeId} {k : IntKind} {w w' : World} {g m : Nat} {f f' : Nat → Nat}
theorem RowK.lt (h : RowK t k w g m f) : g < w.heap.size := by obtain ⟨cs, h1, _⟩ := h; exact Blk.lt (t := t) h1
theorem RowK.block (h : RowK t k w g m f) (hb : w'.heap[g]? = w.heap[g]?) : RowK t k w' g m f := by obtain ⟨cs, h1, h2⟩ := h; exact ⟨cs, hb.trans h1, h2⟩
theorem RowK.new (h : RowK t k w g m f) (hn : New w w') : RowK t k w' g m f := h.block (hn.block g h.lt)
theorem RowK.grown (h : RowK t k w g m f) {row : Option Nat} (hg : w.grownBy w' row) (hr : row ≠ some g) : RowK t k w' g m f := h.block (hg.block g h.lt (Ne.symm hr))
theorem RowK.congr (h : RowK t k w g m f) (he : ∀ j, j < m → f j = f' j) : RowK t k w g m f' := by
  obtain ⟨cs, h1, h2⟩ := h
  exact ⟨cs, h1, fun j hj => by rw [h2 j hj, he j hj]⟩
theorem RowK.cell (h : RowK t k w g m f) {j : Nat} (hj : j < m) : w.cell? ⟨g, j, none⟩ = some (.int k (f j : Nat)) := by
  obtain ⟨cs, h1, h2⟩ := h
  rw [cell_of_row w g j cs _ _ h1, h2 j hj]
theorem RowK.rdI (h : RowK t k w g m f) (hm : m ≤ maxLen) : RdI k w (some ⟨g, 0, none⟩) m (fun j => (f j : Nat)) :=
  ⟨hm, fun _ => ⟨g, 0, rfl, h.lt, fun j hj => by simpa using h.cell hj⟩⟩
theorem RowK.of_own {base c : Nat} (h : w.ownsRow base t 1 (.slice (some ⟨g, 0, none⟩) m c) m (numL k f m)) : RowK t k w g m f := by
  rcases h.2 with ⟨h0, _⟩ | ⟨g', cap, cur, hv, hb, hg, h1, h2, h3, h4⟩
  · cases h0
  · cases hv
    refine ⟨cur, hg, fun j hj => ?_⟩
    have h5 : (cur.toList.take (m * 1))[j]? = some (.int k (f j : Nat)) := by rw [h4]; simp [numL, hj]
    rw [List.getElem?_take, if_pos (by omega)] at h5
    simpa using h5
theorem RowK.of_rowIs {F : Nat → Value} {M : Nat} (h : w.rowIs g t M F) (hm : m ≤ M) (hf : ∀ j, j < m → F j = .int k (f j : Nat)) : RowK t k w g m f := by
  obtain ⟨cs, h1, _, h3⟩ := h
  exact ⟨cs, h1, fun j hj => by rw [h3 j (by omega), hf j hj]⟩
theorem RowK.ne_own {e : TypeId} (h : RowK t k w g m f) {base : Nat} {size : Nat} {v : Value} {n : Nat} {xs : List Value} (ho : w.ownsRow base e size v n xs) (hne : e ≠ t) : v.ownBlock ≠ some g := by
  intro he
  obtain ⟨cs, h1, _⟩ := h
  rcases ho.2 with ⟨rfl, _⟩ | ⟨g', cap, cur, rfl, _, hg, _⟩
  · cases he
  · have hgb : g' = g := by simpa [Value.ownBlock] using he
    subst hgb
    rw [hg] at h1
    injection h1 with h1
    injection h1 with _ h1 _
    exact hne h1
theorem RowK.ne_row {e : TypeId} (h : RowK t k w g m f) {b n : Nat} {F : Nat → Value} (ho : w.rowIs b e n F) (hne : e ≠ t) : b ≠ g := by
  intro he
  subst he
  obtain ⟨cs, h1, _⟩ := h
  obtain ⟨c, hc, _⟩ := ho
  rw [hc] at h1
  injection h1 with h1
  injection h1 with _ h1 _
  exact hne h1
end
end Go.Proofs.YtaommipcdcncnaaDoor.kit
