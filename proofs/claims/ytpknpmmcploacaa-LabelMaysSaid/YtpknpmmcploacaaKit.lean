/-
  Small lemmas that all the texts of this family use: endings, worlds.
-/
import Derived.WalkKit
import Derived.ProofKit
import Derived.OpenShut
import Derived.Deep.QuietTactic
import Derived.BigQuiet
import Derived.Lib.Hide
import Derived.Below
import Derived.Deep.LoopGhost
import Derived.WalkLawsBesides
import Derived.WalkSpells
import Derived.Outline
namespace Go.Proofs.Ytpknpmmcploacaa.kit
open Go.RowKit
theorem ret1 {a a' : Int} (h1 : a = a') : Ending.returned (.int .i64 a) = .returned (.int .i64 a') := by rw [h1]
theorem ret2 {a b a' b' : Int} (h1 : a = a') (h2 : b = b') :
    Ending.returned (.tuple #[.int .i64 a, .int .i64 b]) = .returned (.tuple #[.int .i64 a', .int .i64 b']) := by rw [h1, h2]
theorem ret3 {a b c a' b' c' : Int} (h1 : a = a') (h2 : b = b') (h3 : c = c') :
    Ending.returned (.tuple #[.int .i64 a, .int .i64 b, .int .i64 c]) = .returned (.tuple #[.int .i64 a', .int .i64 b', .int .i64 c']) := by rw [h1, h2, h3]
theorem retb {a a' : Bool} (h1 : a = a') : Ending.returned (.bool a) = .returned (.bool a') := by rw [h1]
theorem retv {a a' : Value} (h1 : a = a') : Ending.returned a = .returned a' := by rw [h1]
theorem intv {a a' : Int} (h1 : a = a') : Value.int .i64 a = .int .i64 a' := by rw [h1]

/-- only new blocks, in short -/
abbrev New (a b : World) : Prop := Below a.heap.size a b
theorem New.refl (w : World) : New w w := Below.refl _ _
theorem New.next {a b c : World} (h : New a b) (k : New b c) : New a c := h.trans (k.mono h.size)
theorem New.alloc {a b : World} (h : New a b) (o : Obj) : New a (b.alloc o) := Below.alloc h h.size o
theorem New.of_alloc {a b : World} {o : Obj} (h : New (a.alloc o) b) : New a b := New.next (New.alloc (New.refl a) o) h
theorem New.drewN {a b : World} (h : New a b) (n : Nat) : New a (b.drewN n) := ⟨h.os, h.tape, h.output, h.size, h.block⟩
theorem New.drew {a b : World} (h : New a b) : New a b.drew := ⟨h.os, h.tape, h.output, h.size, h.block⟩
theorem New.set {a b : World} (h : New a b) {p : Addr} (hp : a.heap.size ≤ p.block) (u : Value) : New a (b.setCell p u) := Below.setCell h hp u
theorem New.of_drewN (w : World) (n : Nat) : New w (w.drewN n) := (New.refl w).drewN n
theorem add_cell (b off k : Nat) : (⟨b, off, none⟩ : Addr).add k = ⟨b, off + k, none⟩ := by
  unfold Addr.add
  split
  · rename_i h; subst h; rfl
  · rfl
end Go.Proofs.Ytpknpmmcploacaa.kit
