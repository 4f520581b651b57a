/-
  A map of the call's own with numbers as keys, as a function: whatever values it holds.
-/
import Derived.Test.YthjjchlibbheaaaDrivePlay
import Derived.Maps.Own
import Derived.Maps.OwnOps
import Derived.Maps.Views
namespace Go.Proofs.Ythjjchlibbheaaa.drive
open Go.ChangeShapes Go.WideShapes Go.ChangeAt Go.RowKit Go.Proofs.Ythjjchlibbheaaa.kit Go.Deep Go.Maps
set_option linter.unusedVariables false
abbrev tokR (v : Value) : Option (DataW Value × List MemPlace) := some (.held v, [])
/-- block b is a map that reads as f (z where there is nothing) -/
def MapF (w : World) (b n : Nat) (z : Value) (f : Nat → Value) : Prop :=
  ∃ D : DataW Value, w.ownsMap Try.prog 3 tokR b n D ∧ IsMap D ∧ ∀ i : Nat, D.atKey (.int .i64 (i : Int)) (.held z) = .held (f i)
theorem keyed : Keyed Try.prog 3 := int_keyed Try.underlying3
theorem key_at (i : Nat) (hi : i < 1000) : keyOf Try.prog 3 (.int .i64 (i : Int)) = some (.int .i64 (i : Int)) := by
  have h1 : IntKind.i64.min = -9223372036854775808 := rfl
  have h2 : IntKind.i64.max = 9223372036854775807 := rfl
  exact keyOf_int_mk Try.underlying3 (by simp only [Lit.wf, Bool.and_eq_true, decide_eq_true_eq]; omega)
section
variable {w w' : World} {b n : Nat} {z : Value} {f : Nat → Value}
theorem MapF.obj (h : MapF w b n z f) : ∃ es c, w.heap[b]? = some (.map es c) := by
  obtain ⟨D, ⟨es, c, h1, _⟩, _⟩ := h
  exact ⟨es, c, h1⟩
theorem MapF.made (w : World) (z : Value) : MapF (w.alloc (.map #[] 0)) w.heap.size 0 z (fun _ => z) :=
  ⟨.map [], World.ownsMap_made w _ _ _, isMap_empty, fun i => atKey_of_not_has rfl _⟩
theorem MapF.grown (h : MapF w b n z f) {row : Option Nat} (hg : w.grownBy w' row) (hr : some b ≠ row) : MapF w' b n z f := by
  obtain ⟨D, h1, h2⟩ := h
  exact ⟨D, h1.kept hg hr, h2⟩
theorem MapF.new (h : MapF w b n z f) (hn : New w w') : MapF w' b n z f := h.grown (row := none) ⟨hn.os, hn.tape, hn.output, hn.size, fun k hk _ => hn.block k hk⟩ (by simp)
theorem MapF.mono (h : MapF w b n z f) {n' : Nat} (hn : n ≤ n') : MapF w b n' z f := by
  obtain ⟨D, h1, h2⟩ := h
  exact ⟨D, h1.mono hn, h2⟩
theorem MapF.lookup {t e : TypeId} (h : MapF w b n z f) (ht : Try.prog.underlying t = some (.map 3 e)) (hz : (zeroValue e).run Try.prog w = .ok z w) (i : Nat) (hi : i < 1000) : (Instr.lookup t (.map (some b)) (.int .i64 (i : Int)) false).run Try.prog w = .ok (f i) w := by
  obtain ⟨D, h1, h2, h3⟩ := h
  obtain ⟨v, ps, hr, hv⟩ := h1.lookup keyed ht hz (zd := .held z) (zp := []) rfl (key_at i hi)
  rw [h3 i] at hv
  simp [tokR] at hv
  rw [hr, hv.1]
theorem MapF.update {t e : TypeId} (h : MapF w b n z f) (ht : Try.prog.underlying t = some (.map 3 e)) (hn : n < maxLen) (i : Nat) (hi : i < 1000) (v : Value) :
    ∃ w', (Instr.mapUpdate t (.map (some b)) (.int .i64 (i : Int)) v).run Try.prog w = .ok () w' ∧ MapF w' b (n + 1) z (fun j => if j = i then v else f j) ∧ w.grownBy w' (some b) := by
  obtain ⟨D, h1, h2, h3⟩ := h
  obtain ⟨w', hr, h4, hg⟩ := h1.update keyed ht hn (key_at i hi) (val := v) (d := .held v) (ps := []) rfl
  refine ⟨w', hr, ⟨_, h4, h2.put _ _, fun j => ?_⟩, hg⟩
  by_cases e : j = i
  · subst e
    simp only [if_true]
    exact atKey_put_same h2 (by constructor) _ _
  · simp only [if_neg e]
    rw [atKey_put_other (by intro hh; injection hh with _ hh; omega)]
    exact h3 j
end
theorem wpList_mapUpdate_run {P : Program} {ops : Array Oper} {rest : List Oper} {o : Oper} {a : Act} {Q : Exit → Act → World → Prop} {w w' : World} (hg : o.guard = none) (m x v : Operand) (t : TypeId) (hop : o.op = Op.mapUpdate t m x v)
    (mv key val : Value) (hm : a.eval m = mv) (hx : a.eval x = key) (hv : a.eval v = val) (hrun : (Instr.mapUpdate t mv key val).run P w = .ok () w') (hK : wpList P ops Q rest (a.put o.dst undef) w') : wpList P ops Q (o :: rest) a w := by
  refine wpList_plain hg fun K' hK' => ?_
  unfold Oper.wp
  simp [execOp, hop, hm, hx, hv, hrun, Result.andThen]
  exact hK' _ _ hK
end Go.Proofs.Ythjjchlibbheaaa.drive
