/-
  Contracts: the product of matrices.
-/
import Derived.Test.YtjmjnodaohbpfaaMatRefApply
namespace Go.Proofs.Ytjmjnodaohbpfaa.mat
open Go.ChangeShapes Go.WideShapes Go.ChangeAt Go.RowKit Go.Proofs.Ytjmjnodaohbpfaa.kit Go.Proofs.Ytjmjnodaohbpfaa.gf Go.Deep
set_option linter.unusedVariables false

theorem info30 : (Try.prog.info? 29).map (fun i => (i.zero, i.size, i.bytes)) = some (some (.slice none 0 0), 1, 24) := by kernel_rfl
theorem nil_rdM (w : World) (R : Nat → Option Addr) (L C : Nat → Nat) (M : Nat → Nat → Int) : RdM .i64 w none 0 R L C M := ⟨Nat.zero_le _, fun h => absurd h (Nat.lt_irrefl 0), fun i h => absurd h (Nat.not_lt_zero i)⟩
def mmVal (X Y : Nat → Nat → Int) (nb i k : Nat) : Nat := dotN (elN X i) (fun q => elN Y q k) nb
def mmCode (n : Nat) (L : Nat → Nat) (X : Nat → Nat → Int) (nb : Nat) (L' : Nat → Nat) (Y : Nat → Nat → Int) : Int := if mayM n L X = true ∧ mayM nb L' Y = true then (if L 0 = nb then 0 else 1) else 4
def mmLen (n : Nat) (L : Nat → Nat) (X : Nat → Nat → Int) (nb : Nat) (L' : Nat → Nat) (Y : Nat → Nat → Int) : Nat := if mmCode n L X nb L' Y = 0 then n else 0
def rowsL (G : Nat → Nat) (m k : Nat) : List Value := (List.range k).map fun i => .slice (some ⟨G i, 0, none⟩) m m
theorem rowsL_succ (G : Nat → Nat) (m k g : Nat) : rowsL (fun i => if i = k then g else G i) m (k + 1) = rowsL G m k ++ [.slice (some ⟨g, 0, none⟩) m m] := by
  unfold rowsL
  rw [List.range_succ, List.map_append]
  congr 1
  · apply List.map_congr_left
    intro i hi
    have : i ≠ k := by have := List.mem_range.1 hi; omega
    simp [this]
  · simp
/-- a row of one element type is no row of another -/
theorem row_ne_own {w : World} {base : Nat} {e t : TypeId} {size : Nat} {v : Value} {n b m : Nat} {xs : List Value} {f : Nat → Value} (h : w.ownsRow base e size v n xs) (hr : w.rowIs b t m f) (hne : e ≠ t) : v.ownBlock ≠ some b := by
  intro he
  rcases h.2 with ⟨rfl, _⟩ | ⟨g, cap, cur, rfl, _, hg, _⟩
  · cases he
  · have hgb : g = b := by simpa [Value.ownBlock] using he
    subst hgb
    obtain ⟨c, hc, _⟩ := hr
    rw [hg] at hc
    injection hc with hc
    injection hc with _ hc _
    exact hne hc
/-- own rows behind an own row of slices, read -/
theorem own_rdM {w : World} {base : Nat} {size : Nat} {v : Value} {n m : Nat} {G : Nat → Nat} {e t : TypeId} {f : Nat → Nat → Nat} (h : w.ownsRow base e size v n (rowsL G m n)) (hr : ∀ i, i < n → w.rowIs (G i) t m (fun j => .int .i64 (f i j : Nat))) (hm : m ≤ maxLen) :
    ∃ A c, v = .slice A n c ∧ RdM .i64 w A n (fun i => some ⟨G i, 0, none⟩) (fun _ => m) (fun _ => m) (fun i j => (f i j : Nat)) := by
  obtain ⟨A, c, rfl, h1, h2, h3, h4⟩ := own_open h
  refine ⟨A, c, rfl, by omega, fun h0 => ?_, fun i hi => ⟨⟨hm, fun h0 => ⟨G i, 0, rfl, (hr i hi).lt, fun j hj => ?_⟩⟩, Nat.le_refl _, hm⟩⟩
  · obtain ⟨g, rfl, _, hg⟩ := h3 h0
    refine ⟨g, 0, rfl, hg, fun i hi => ?_⟩
    have := h4 g rfl i (.slice (some ⟨G i, 0, none⟩) m m) (by simp [rowsL, hi])
    simpa using this
  · simpa using (hr i hi).cell hj
theorem rowIs_new {w w' : World} {b : Nat} {t : TypeId} {n : Nat} {f : Nat → Value} (h : w.rowIs b t n f) (hn : New w w') : w'.rowIs b t n f := h.of_block (hn.block _ h.lt)
theorem rowIs_grown {w w' : World} {b : Nat} {t : TypeId} {n : Nat} {f : Nat → Value} {row : Option Nat} (h : w.rowIs b t n f) (hg : w.grownBy w' row) (hr : row ≠ some b) : w'.rowIs b t n f := h.of_block (hg.block _ h.lt (Ne.symm hr))

end Go.Proofs.Ytjmjnodaohbpfaa.mat
