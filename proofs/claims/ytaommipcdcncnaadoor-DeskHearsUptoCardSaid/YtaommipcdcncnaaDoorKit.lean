/-
  Small lemmas that all the texts of this family use: endings, worlds.
-/
import Derived.WalkKit
import Derived.ProofKit
import Derived.OpenShut
import Derived.Deep.QuietTactic
import Derived.BigQuiet
import Derived.Lib.Hide
import Derived.Below
import Derived.Laws.OwnMore
import Derived.Laws.AppendOwn
import Derived.Laws.Rows
import Derived.Deep.LoopGhost
import Derived.WalkLawsBesides
import Derived.WalkSpells
import Derived.Outline
namespace Go.Proofs.YtaommipcdcncnaaDoor.kit
open Go.RowKit
theorem ret1 {a a' : Int} (h1 : a = a') : Ending.returned (.int .i64 a) = .returned (.int .i64 a') := by rw [h1]
theorem ret2 {a b a' b' : Int} (h1 : a = a') (h2 : b = b') :
    Ending.returned (.tuple #[.int .i64 a, .int .i64 b]) = .returned (.tuple #[.int .i64 a', .int .i64 b']) := by rw [h1, h2]
theorem ret3 {a b c a' b' c' : Int} (h1 : a = a') (h2 : b = b') (h3 : c = c') :
    Ending.returned (.tuple #[.int .i64 a, .int .i64 b, .int .i64 c]) = .returned (.tuple #[.int .i64 a', .int .i64 b', .int .i64 c']) := by rw [h1, h2, h3]
theorem retb {a a' : Bool} (h1 : a = a') : Ending.returned (.bool a) = .returned (.bool a') := by rw [h1]
theorem retv {a a' : Value} (h1 : a = a') : Ending.returned a = .returned a' := by rw [h1]
theorem intv {a a' : Int} (h1 : a = a') : Value.int .i64 a = .int .i64 a' := by rw [h1]

theorem add_cell (b off k : Nat) : (⟨b, off, none⟩ : Addr).add k = ⟨b, off + k, none⟩ := by
  unfold Addr.add
  split
  · rename_i h; subst h; rfl
  · rfl

/-- only new blocks, in short -/
abbrev New (a b : World) : Prop := Below a.heap.size a b
theorem New.refl (w : World) : New w w := Below.refl _ _
theorem New.next {a b c : World} (h : New a b) (k : New b c) : New a c := h.trans (k.mono h.size)
theorem New.alloc {a b : World} (h : New a b) (o : Obj) : New a (b.alloc o) := Below.alloc h h.size o
theorem New.of_alloc {a b : World} {o : Obj} (h : New (a.alloc o) b) : New a b := New.next (New.alloc (New.refl a) o) h
theorem New.drewN {a b : World} (h : New a b) (n : Nat) : New a (b.drewN n) := ⟨h.os, h.tape, h.output, h.size, h.block⟩
theorem New.drew {a b : World} (h : New a b) : New a b.drew := ⟨h.os, h.tape, h.output, h.size, h.block⟩
theorem New.set {a b : World} (h : New a b) {p : Addr} (hp : a.heap.size ≤ p.block) (u : Value) : New a (b.setCell p u) := Below.setCell h hp u
theorem New.of_drewN (w : World) (n : Nat) : New w (w.drewN n) := (New.refl w).drewN n

/-- block g is just these cells, of element type t, none frozen -/
def Blk (w : World) (g : Nat) (t : TypeId) (cs : Array Value) : Prop := w.heap[g]? = some (.cells cs t (0, 0))
section
variable {w w' : World} {g : Nat} {t : TypeId} {cs : Array Value}
theorem Blk.lt (h : Blk w g t cs) : g < w.heap.size := by
  rcases Nat.lt_or_ge g w.heap.size with hlt | hge
  · exact hlt
  · unfold Blk at h; rw [Array.getElem?_eq_none hge] at h; cases h
theorem Blk.cell (h : Blk w g t cs) (i : Nat) : w.cell? ⟨g, i, none⟩ = cs[i]? := cell_of_row w g i cs t (0, 0) h
theorem Blk.frozen (h : Blk w g t cs) (i : Nat) : w.frozen? ⟨g, i, none⟩ = false := by
  unfold Blk at h
  simp [World.frozen?, h]
theorem Blk.fresh (w : World) (t : TypeId) (cs : Array Value) : Blk (w.alloc (.cells cs t)) w.heap.size t cs := heap_alloc_new w _
theorem Blk.drew (h : Blk w g t cs) : Blk w.drew g t cs := h
theorem Blk.alloc (h : Blk w g t cs) (o : Obj) : Blk (w.alloc o) g t cs := (Below.heap_alloc w o g h.lt).trans h
theorem Blk.put (h : Blk w g t cs) (i : Nat) (u : Value) : Blk (w.setCell ⟨g, i, none⟩ u) g t (cs.setIfInBounds i u) := by
  unfold Blk at h ⊢
  simp [World.setCell, Array.getElem?_modify, h]
theorem Blk.far (h : Blk w g t cs) {p : Addr} (hp : g ≠ p.block) (u : Value) : Blk (w.setCell p u) g t cs := (Below.heap_setCell w p u g hp).trans h
theorem Blk.new (h : Blk w g t cs) (hb : New w w') : Blk w' g t cs := (hb.block g h.lt).trans h
theorem Blk.below {B : Nat} (h : Blk w g t cs) (hb : Below B w w') (hg : g < B) : Blk w' g t cs := (hb.block g hg).trans h
end
/-- an owned row, opened -/
theorem own_open {w : World} {base : Nat} {e : TypeId} {size : Nat} {v : Value} {n : Nat} {xs : List Value} (h : w.ownsRow base e size v n xs) :
    ∃ A c, v = .slice A n c ∧ n ≤ c ∧ c ≤ maxLen ∧ (0 < n → ∃ g, A = some ⟨g, 0, none⟩ ∧ base ≤ g ∧ g < w.heap.size) ∧ ∀ g, A = some ⟨g, 0, none⟩ → ∀ j u, xs[j]? = some u → w.cell? ⟨g, j, none⟩ = some u := by
  have hc := @World.ownsRow.cells w base e size v n xs h
  have hl := h.lt
  rcases h.2 with ⟨rfl, rfl⟩ | ⟨g, cap, cur, rfl, hb, hg, h1, h2, _⟩
  · exact ⟨none, 0, rfl, Nat.le_refl _, Nat.zero_le _, fun h => absurd h (Nat.lt_irrefl 0), fun g hg => by cases hg⟩
  · refine ⟨_, cap, rfl, h1, h2, fun _ => ⟨g, rfl, hb, (hl g rfl).2⟩, fun g' hg' j u hu => ?_⟩
    injection hg' with hg'
    injection hg' with hg' _ _
    subst hg'
    have := hc rfl j u hu
    rw [add_cell] at this
    simpa using this
/-- an owned row behind a call that only makes new blocks -/
theorem own_new {w w' : World} {base : Nat} {e : TypeId} {size : Nat} {v : Value} {n : Nat} {xs : List Value} (h : w.ownsRow base e size v n xs) (hn : New w w') : w'.ownsRow base e size v n xs := by
  refine ⟨h.1, ?_⟩
  rcases h.2 with h0 | ⟨g, cap, cur, rfl, hb, hg, hr⟩
  · exact .inl h0
  · have hlt : g < w.heap.size := by
      rcases Nat.lt_or_ge g w.heap.size with hlt | hge
      · exact hlt
      · rw [Array.getElem?_eq_none hge] at hg; cases hg
    exact .inr ⟨g, cap, cur, rfl, hb, (hn.block g hlt).trans hg, hr⟩
/-- an old block behind an append to another row -/
theorem Blk.grown {w w' : World} {g : Nat} {t : TypeId} {cs : Array Value} {row : Option Nat} (h : Blk w g t cs) (hg : w.grownBy w' row) (hr : row ≠ some g) : Blk w' g t cs := (hg.block g h.lt (Ne.symm hr)).trans h
/-- behind an append to a row of the call's own -/
theorem New.append {w wr w1 : World} {o : Obj} {row : Option Nat} (h : New w wr) (hg : (wr.alloc o).drew.grownBy w1 row) (hr : ∀ g, row = some g → w.heap.size ≤ g) : New w w1 :=
  Below.grown (h.alloc o).drew hg (by have := h.size; simp; omega) hr
theorem New.append' {w wr w1 : World} {o : Obj} {row : Option Nat} (h : New w wr) (hg : (wr.alloc o).grownBy w1 row) (hr : ∀ g, row = some g → w.heap.size ≤ g) : New w w1 :=
  Below.grown (h.alloc o) hg (by have := h.size; simp; omega) hr
/-- behind a contract's world: what lay below stays below -/
theorem Below.next {B : Nat} {a b c : World} (h : Below B a b) (k : New b c) (hB : B ≤ b.heap.size) : Below B a c := h.trans (k.mono hB)
end Go.Proofs.YtaommipcdcncnaaDoor.kit
