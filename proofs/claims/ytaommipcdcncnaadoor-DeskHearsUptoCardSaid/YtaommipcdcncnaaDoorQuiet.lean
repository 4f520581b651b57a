/-
  A region that draws its order, whose operations only read and whose callees read, draw and make blocks of their own: walked once, at the class of the worlds that have new blocks alone.
-/
import Derived.Deep.QuietTactic
import Derived.BigQuiet
import Derived.Test.YtaommipcdcncnaaDoorKit
namespace Go.Proofs.YtaommipcdcncnaaDoor.kit
open Go.RowKit

/-- a world that has new blocks alone -/
structure NewW (w : World) where
  to : World
  is : New w to
def NewW.self (w : World) : NewW w := ⟨w, New.refl w⟩
instance inh_NewW (w : World) : Inhabited (NewW w) := ⟨NewW.self w⟩

theorem wp_region_quiet_new {P : Program} {id : Nat} {Q : Exit → Act → World → Prop} {a : Act} {w : World} {l : List Oper} (hm : P.follows .mixedOrders = true) (hB : Region.lexB .any l.toArray = true)
    (h : wpQuiet P l.toArray (fun w' => ∃ p : NewW w, w' = p.to) (fun a' => ∀ w', (∃ p : NewW w, w' = p.to) → Q .normal a' w') l a) : (Code.region id l.toArray true).wp P Q a w :=
  wp_region_quiet (C := fun w' => ∃ p : NewW w, w' = p.to) hm hB ⟨⟨w.drew, (New.refl w).drew⟩, rfl⟩ (by simpa using h)

/-- a cell of an old block, in every world of the class -/
theorem NewW.cell {w : World} (p : NewW w) {a : Addr} (hb : a.block < w.heap.size) : p.to.cell? a = w.cell? a := p.is.cell hb
theorem NewW.cells {w : World} {a : Addr} {v : Value} (h : w.cell? a = some v) (hb : a.block < w.heap.size) (p : NewW w) : p.to.cell? a = some v := (p.is.cell hb).trans h
theorem NewW.call {P : Program} {f : FuncId} {args : Array Value} {w : World} {v : Value} (p : NewW w)
    (h : Calls P f args p.to fun e w' => e = .returned v ∧ New p.to w') : Calls P f args p.to fun e w'' => e = .returned v ∧ ∃ q : NewW w, w'' = q.to :=
  h.mono fun _ _ ⟨he, hn⟩ => ⟨he, ⟨_, p.is.next hn⟩, rfl⟩
theorem NewW.call_same {P : Program} {f : FuncId} {args : Array Value} {w : World} {v : Value} (p : NewW w)
    (h : Calls P f args p.to fun e w' => e = .returned v ∧ p.to = w') : Calls P f args p.to fun e w'' => e = .returned v ∧ ∃ q : NewW w, w'' = q.to :=
  h.mono fun _ _ ⟨he, hn⟩ => ⟨he, p, hn.symm⟩
theorem New.of_same {w w' : World} (h : w = w') : New w w' := h ▸ New.refl w
/-- a block that a store has laid: the cell -/
theorem lt_of_cell {w : World} {a : Addr} {v : Value} (h : w.cell? a = some v) : a.block < w.heap.size := by
  rcases Nat.lt_or_ge a.block w.heap.size with h1 | h1
  · exact h1
  · unfold World.cell? at h
    rw [Array.getElem?_eq_none h1] at h
    simp at h
theorem NewW.keep {w : World} {a : Addr} {v : Value} (h : w.cell? a = some v) (p : NewW w) : p.to.cell? a = some v := p.cells h (lt_of_cell h)
end Go.Proofs.YtaommipcdcncnaaDoor.kit
