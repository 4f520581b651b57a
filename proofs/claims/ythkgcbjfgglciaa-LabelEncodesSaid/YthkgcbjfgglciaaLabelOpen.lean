/-
  An argument of the type api.Label, opened to its thirteen numbers.
-/
import Derived.Test.YthkgcbjfgglciaaOpen
import Derived.Test.YthkgcbjfgglciaaLabelMay
namespace Go.Proofs.Ythkgcbjfgglciaa.label
open Go.ChangeShapes Go.WideShapes Go.ChangeAt Go.RowKit Go.Proofs.Ythkgcbjfgglciaa.kit Go.Joins Go.Deep
theorem list13 (l : List Value) (h : l.length = 13) : ∃ a0 a1 a2 a3 a4 a5 a6 a7 a8 a9 a10 a11 a12, l = [a0, a1, a2, a3, a4, a5, a6, a7, a8, a9, a10, a11, a12] := by
  match l, h with
  | [a0, a1, a2, a3, a4, a5, a6, a7, a8, a9, a10, a11, a12], _ => exact ⟨_, _, _, _, _, _, _, _, _, _, _, _, _, rfl⟩
theorem cellsLabel : Try.prog.cellsOf 41 = 13 := by kernel_rfl
set_option maxRecDepth 100000 in
theorem open_label {H : Type} {enc : TypeId × Value → H} {W : World} {base : Nat} {v : Value} {d : DataW H} {p : List MemPlace} (ok : Value.okWide Try.prog W .any base 41 v)
    (h : DataW.Trod enc Try.prog W 0 (fun _ => true) true 41 v d p) : ∃ pool drive drives parity time addr count bytes birth a b c d, v = lab pool drive drives parity time addr count bytes birth a b c d ∧ (Lit.int .i64 pool).wf = true ∧ (Lit.int .i64 drive).wf = true ∧ (Lit.int .i64 drives).wf = true ∧ (Lit.int .i64 parity).wf = true ∧ (Lit.int .i64 time).wf = true ∧ (Lit.int .i64 addr).wf = true ∧ (Lit.int .i64 count).wf = true ∧ (Lit.int .i64 bytes).wf = true ∧ (Lit.int .i64 birth).wf = true ∧ (Lit.int .i64 a).wf = true ∧ (Lit.int .i64 b).wf = true ∧ (Lit.int .i64 c).wf = true ∧ (Lit.int .i64 d).wf = true := by
  obtain ⟨cs, rfl, hsz⟩ := okWide_struct Try.underlying41 ok
  obtain ⟨l⟩ := cs
  obtain ⟨a0, a1, a2, a3, a4, a5, a6, a7, a8, a9, a10, a11, a12, rfl⟩ := list13 l (hsz.trans cellsLabel)
  obtain ⟨fuel, hf⟩ := h
  have c1 : Try.prog.cellsOf 3 = 1 := by kernel_rfl
  have c8 : Try.prog.cellsOf 39 = 8 := by kernel_rfl
  have c4 : Try.prog.cellsOf 37 = 4 := by kernel_rfl
  obtain ⟨_, _, t0⟩ := field_at Try.underlying41 hf 0 3 0 1 [a0] ⟨_, rfl, rfl, rfl⟩ c1 rfl
  obtain ⟨x0, rfl, w0⟩ := int_of Try.underlying3 t0
  obtain ⟨_, _, t1⟩ := field_at Try.underlying41 hf 1 3 1 1 [a1] ⟨_, rfl, rfl, rfl⟩ c1 rfl
  obtain ⟨x1, rfl, w1⟩ := int_of Try.underlying3 t1
  obtain ⟨_, _, t2⟩ := field_at Try.underlying41 hf 2 3 2 1 [a2] ⟨_, rfl, rfl, rfl⟩ c1 rfl
  obtain ⟨x2, rfl, w2⟩ := int_of Try.underlying3 t2
  obtain ⟨_, _, t3⟩ := field_at Try.underlying41 hf 3 3 3 1 [a3] ⟨_, rfl, rfl, rfl⟩ c1 rfl
  obtain ⟨x3, rfl, w3⟩ := int_of Try.underlying3 t3
  obtain ⟨_, _, t4⟩ := field_at Try.underlying41 hf 4 3 4 1 [a4] ⟨_, rfl, rfl, rfl⟩ c1 rfl
  obtain ⟨x4, rfl, w4⟩ := int_of Try.underlying3 t4
  obtain ⟨_, _, tp⟩ := field_at Try.underlying41 hf 5 39 5 8 [a5, a6, a7, a8, a9, a10, a11, a12] ⟨_, rfl, rfl, rfl⟩ c8 rfl
  obtain ⟨_, _, t5⟩ := field_at Try.underlying39 tp 0 3 0 1 [a5] ⟨_, rfl, rfl, rfl⟩ c1 rfl
  obtain ⟨x5, rfl, w5⟩ := int_of Try.underlying3 t5
  obtain ⟨_, _, t6⟩ := field_at Try.underlying39 tp 1 3 1 1 [a6] ⟨_, rfl, rfl, rfl⟩ c1 rfl
  obtain ⟨x6, rfl, w6⟩ := int_of Try.underlying3 t6
  obtain ⟨_, _, t7⟩ := field_at Try.underlying39 tp 2 3 2 1 [a7] ⟨_, rfl, rfl, rfl⟩ c1 rfl
  obtain ⟨x7, rfl, w7⟩ := int_of Try.underlying3 t7
  obtain ⟨_, _, t8⟩ := field_at Try.underlying39 tp 3 3 3 1 [a8] ⟨_, rfl, rfl, rfl⟩ c1 rfl
  obtain ⟨x8, rfl, w8⟩ := int_of Try.underlying3 t8
  obtain ⟨_, _, ts⟩ := field_at Try.underlying39 tp 4 37 4 4 [a9, a10, a11, a12] ⟨_, rfl, rfl, rfl⟩ c4 rfl
  obtain ⟨_, _, t9⟩ := field_at Try.underlying37 ts 0 3 0 1 [a9] ⟨_, rfl, rfl, rfl⟩ c1 rfl
  obtain ⟨x9, rfl, w9⟩ := int_of Try.underlying3 t9
  obtain ⟨_, _, t10⟩ := field_at Try.underlying37 ts 1 3 1 1 [a10] ⟨_, rfl, rfl, rfl⟩ c1 rfl
  obtain ⟨x10, rfl, w10⟩ := int_of Try.underlying3 t10
  obtain ⟨_, _, t11⟩ := field_at Try.underlying37 ts 2 3 2 1 [a11] ⟨_, rfl, rfl, rfl⟩ c1 rfl
  obtain ⟨x11, rfl, w11⟩ := int_of Try.underlying3 t11
  obtain ⟨_, _, t12⟩ := field_at Try.underlying37 ts 3 3 3 1 [a12] ⟨_, rfl, rfl, rfl⟩ c1 rfl
  obtain ⟨x12, rfl, w12⟩ := int_of Try.underlying3 t12
  exact ⟨x0, x1, x2, x3, x4, x5, x6, x7, x8, x9, x10, x11, x12, rfl, w0, w1, w2, w3, w4, w5, w6, w7, w8, w9, w10, w11, w12⟩
end Go.Proofs.Ythkgcbjfgglciaa.label
