/-
  The reference's Model.Does: what it makes; where a snapshot stands.
-/
import Derived.Test.YtmpaheaedaeakaaPoolRefThing3
namespace Go.Proofs.Ytmpaheaedaeakaa.pool
open Go.ChangeShapes Go.WideShapes Go.ChangeAt Go.RowKit Go.Proofs.Ytmpaheaedaeakaa.kit Go.Deep Go.Maps
set_option linter.unusedVariables false
set_option maxRecDepth 100000
theorem does_mem (w : World) (ms cs : Array Value) : ∃ W1, W1 = (((w.alloc (.cells ms 42)).alloc (.cells cs 34)).alloc (.cells #[.int .i64 0, .bool false, .int .i64 0, .slice none 0 0, .slice none 0 0] 37)).alloc (.cells #[.slice none 0 0, .slice none 0 0] 42) ∧ New w W1 ∧
    Hid (Blk W1 w.heap.size 42 ms) ∧ Hid (Blk W1 (w.heap.size + 1) 34 cs) ∧ Hid (Blk W1 (w.heap.size + 2) 37 #[.int .i64 0, .bool false, .int .i64 0, .slice none 0 0, .slice none 0 0]) ∧ Hid (Blk W1 (w.heap.size + 3) 42 #[.slice none 0 0, .slice none 0 0]) := by
  have g1 : Blk (w.alloc (.cells ms 42)) w.heap.size 42 ms := Blk.fresh w _ _
  have g2 := Blk.fresh (w.alloc (.cells ms 42)) 34 cs
  have g4 := Blk.fresh ((w.alloc (.cells ms 42)).alloc (.cells cs 34)) 37 z5
  have g5 := Blk.fresh (((w.alloc (.cells ms 42)).alloc (.cells cs 34)).alloc (.cells z5 37)) 42 z2
  refine ⟨_, rfl, (((New.refl w).alloc _).alloc _ |>.alloc _).alloc _, (((g1.alloc _).alloc _).alloc _ : _), ((Lib.hid (by simpa using g2) : Hid (Blk _ (w.heap.size + 1) _ _)).out.alloc _).alloc _, (Lib.hid (by simpa using g4) : Hid (Blk _ (w.heap.size + 2) _ _)).out.alloc _, Lib.hid (by simpa using g5)⟩
/-- the place of a name, as far as it has been looked for -/
def shV (o : Option Nat) (k : Nat) : Int := match o with
  | none => -1
  | some i => if i < k then (i : Int) else -1
theorem shV_0 (o : Option Nat) : shV o 0 = -1 := by
  cases o with
  | none => rfl
  | some i => simp [shV]
theorem place_ex {α : Type} [Inhabited α] {l : List (Nm × α)} (hs : Asc l) (x : Nm) : ∃ o : Option Nat, (∀ k, k < l.length → shV o (k + 1) = if (nth l k).1 = x then (k : Int) else shV o k) ∧ posI l x (shV o l.length) := by
  by_cases h : ∃ i, i < l.length ∧ (nth l i).1 = x
  · obtain ⟨i, hi, hx⟩ := h
    refine ⟨some i, fun k hk => ?_, .inr ⟨i, by simp [shV, hi], hi, hx⟩⟩
    by_cases e : (nth l k).1 = x
    · have : k = i := nth_inj hs hk hi (e.trans hx.symm)
      subst this
      simp [shV, e]
    · rw [if_neg e]
      have : k ≠ i := fun hh => by subst hh; exact e hx
      unfold shV
      dsimp only
      by_cases h1 : i < k
      · rw [if_pos h1, if_pos (by omega)]
      · rw [if_neg h1, if_neg (by omega)]
  · refine ⟨none, fun k hk => ?_, .inl ⟨rfl, (get_none_iff).2 fun i hi e => h ⟨i, hi, e⟩⟩⟩
    rw [if_neg fun e => h ⟨k, hk, e⟩]
    rfl
theorem posI.neg {α : Type} [Inhabited α] {l : List (Nm × α)} {x : Nm} {p : Int} (h : posI l x p) (hs : Asc l) (hg : get l x = none) : p = -1 := by
  rcases h with ⟨h, _⟩ | ⟨i, _, hi, hx⟩
  · exact h
  · rw [← hx, get_at hs hi] at hg
    cases hg
theorem posI.pos {α : Type} [Inhabited α] {l : List (Nm × α)} {x : Nm} {p : Int} (h : posI l x p) (hg : (get l x).isSome = true) : ∃ i : Nat, p = i ∧ i < l.length ∧ (nth l i).1 = x := by
  rcases h with ⟨_, h⟩ | h
  · rw [h] at hg
    cases hg
  · exact h
end Go.Proofs.Ytmpaheaedaeakaa.pool
