/-
  Contract: slices.Sort on numbers of one's own.
-/
import Derived.Test.YtiffgeglbafenaaSnapKeep
import Derived.Test.YtiffgeglbafenaaSnapShelf
import Derived.Sort.OwnSortedInts
import Derived.Shelf.Slices.In.SortNone
namespace Go.Proofs.Ytiffgeglbafenaa.snap
open Go.ChangeShapes Go.WideShapes Go.ChangeAt Go.RowKit Go.Proofs.Ytiffgeglbafenaa.kit Go.Deep Go.Shelf Go.Sort
set_option linter.unusedVariables false
theorem sort_law {l : List Nat} {n : Nat} (hn : l.Nodup) (hb : ∀ x, x ∈ l → x < n) : (l.map fun b : Nat => (b : Int)).mergeSort (fun x y => decide (x ≤ y)) = ((List.range n).filter fun b => l.contains b).map fun b : Nat => (b : Int) := by
  refine List.Perm.eq_of_pairwise (le := fun a b => decide (a ≤ b) = true) (fun a b _ _ h1 h2 => by simp at h1 h2; omega) (List.pairwise_mergeSort (by intro a b c h1 h2; simp at *; omega) (by intro a b; simp; omega) _) ?_ ((List.mergeSort_perm _ _).trans (List.Perm.map _ ?_))
  · rw [List.pairwise_map]
    refine List.Pairwise.imp (R := fun a b => a < b) (fun h => by simp; omega) (List.Pairwise.filter _ ?_)
    exact List.pairwise_lt_range
  · rw [List.perm_iff_count]
    intro a
    have h2 : ((List.range n).filter fun b => l.contains b).Nodup := List.Pairwise.filter _ List.nodup_range
    rw [hn.count, h2.count]
    by_cases h : a ∈ l
    · rw [if_pos h, if_pos]
      rw [List.mem_filter, List.mem_range]
      exact ⟨hb a h, by simpa using h⟩
    · rw [if_neg h, if_neg]
      rw [List.mem_filter]
      intro h3
      exact h (by simpa using h3.2)
theorem sort_any (base n : Nat) (v : Value) (l : List Nat) (w : World) (ho : OwnI w base v l) (hl : l.length ≤ 200) (hn : l.Nodup) (hb : ∀ x, x ∈ l → x < n) :
    Calls Try.prog 31 #[v] w fun e w' => e = .returned (.tuple #[]) ∧ OwnI w' base v ((List.range n).filter fun b => l.contains b) ∧ w.grownBy w' v.ownBlock := by
  have hlen : ((List.range n).filter fun b => l.contains b).length = l.length := by
    have := congrArg List.length (sort_law hn hb)
    rw [List.length_mergeSort, List.length_map, List.length_map] at this
    exact this.symm
  rcases ho.2 with ⟨rfl, h0⟩ | ⟨g, cap, cur, rfl, hg, hb', h1, h2, h3, h4⟩
  · have hl0 : l = [] := List.length_eq_zero_iff.1 h0
    subst hl0
    have := Any.slices_Sort_int_none laysSort none 0 w
    refine Calls.mono this ?_
    rintro e w' ⟨rfl, rfl⟩
    refine ⟨rfl, ?_, grown_refl _ _⟩
    rw [show ((List.range n).filter fun b => ([] : List Nat).contains b) = [] from by simp]
    exact World.ownsRow_nil _ _ _ _
  · have hH : Holds (Value.int .i64) w g 0 (l.map fun b : Nat => (b : Int)).toArray := holds_of_blockI hb' (by
      rw [List.length_map, ← Nat.mul_one l.length, h4]
      simp [intL])
    have hs := Any.slices_Sort_int laysSort g 0 cap (l.map fun b : Nat => (b : Int)) w hH (Array.getElem?_eq_some_iff.1 hb').1 (by rw [List.length_map]; omega)
    rw [List.length_map] at hs
    refine Calls.mono hs ?_
    rintro e w' ⟨rfl, nn, os, rfl⟩
    rw [sort_law hn hb]
    refine ⟨rfl, ?_, grownBy_sortedI _⟩
    have hr := ownsRow_sortedI (w := w) (base := base) (n := nn) (os := os) (ss := l.map fun b : Nat => (b : Int)) (ts := ((List.range n).filter fun b => l.contains b).map fun b : Nat => (b : Int)) (by rw [List.length_map, List.length_map, hlen]) hg hb' (by rw [List.length_map]; exact h1) h2 h3
    rw [List.length_map] at hr
    show World.ownsRow _ _ _ _ _ _ _
    rw [hlen]
    rw [List.map_map] at hr
    exact hr
end Go.Proofs.Ytiffgeglbafenaa.snap
