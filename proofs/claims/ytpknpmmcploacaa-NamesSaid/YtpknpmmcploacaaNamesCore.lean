/-
  The walk of Names: lists of numbers are compared, place by place.
-/
import Derived.Test.YtpknpmmcploacaaProg
import Derived.Test.YtpknpmmcploacaaQuietTail
import Derived.Handy
import Derived.Great.BuildSlice
import Derived.Deep.DeepCutAuto
import Derived.Deep.CutBlock
namespace Go.Proofs.Ytpknpmmcploacaa.names
open Go.ChangeShapes Go.WideShapes Go.ChangeAt Go.RowKit Go.Proofs.Ytpknpmmcploacaa.kit
set_option linter.unusedVariables false

/-- a list of numbers as it lies in a block -/
def rowZ (l : List Int) : Array Value := (l.map (Value.int .i64)).toArray
theorem rowZ_at (l : List Int) {i : Nat} (h : i < l.length) : (rowZ l)[i]? = some (.int .i64 l[i]) := by simp [rowZ, h]
def codes : List Int := [0, 1, 2, 3, 4, 5, 6, 7, 8, 9, 10, 11, 12, 13]
def kinds : List Int := [1, 2, 3, 1, 2, 3, 4, 5, 6, 7, 8, 1, 2, 3, 1, 2, 3, 4, 1, 2, 3, 4, 5, 6, 7, 8, 9, 10, 11, 12, 13, 14, 15, 16, 17, 18, 19]
def most : List Int := [128, 1048576, 8, 12, 3, 4096, 12, 200, 4096, 300, 512, 8, 32, 4, 65536, 64, 4, 4096, 8, 4, 1024, 400, 3, 200, 64]
theorem codes_at : ∀ i : Nat, (h : i < 14) → codes[i]'h = (i : Int) := by decide
theorem top (w : World) (g : Nat) (t : TypeId) (cs : Array Value) (h : g = w.heap.size) : Blk (w.alloc (.cells cs t)) g t cs := h ▸ Blk.fresh w t cs
set_option maxRecDepth 100000 in
theorem core (w : World) : Calls Try.prog 3 #[] w fun e w' => e = .returned (.bool true) ∧ New w w' := by
  go_enter Try.func3, Try.ntmps3
  go_wp2
  go_loopw [2] (fun c wr => ∃ i : Nat, c = .int .i64 i ∧ i ≤ 14 ∧ New w wr ∧ Blk wr w.heap.size 22 (rowZ codes)) (fun c _ => 14 - (intOf c).toNat)
  case atStart =>
    exact ⟨0, rfl, by omega, (New.refl w).alloc _, Blk.fresh _ _ _⟩
  case round =>
    obtain ⟨i, rfl, hi, hnw, hB⟩ := hrel
    by_cases hlt : i < 14
    · have c0 : wr.cell? ⟨w.heap.size, i, none⟩ = some (.int .i64 (i : Int)) := by
        rw [hB.cell i, rowZ_at codes hlt, codes_at i hlt]
      go_wp2
      go_roundw
      case rel => exact ⟨i + 1, by go_num, by omega, hnw, hB⟩
      case measure => simp [intOf]; omega
    · have hin : i = 14 := by omega
      subst hin
      obtain ⟨W0, hW0⟩ : ∃ W0, W0 = wr := ⟨_, rfl⟩
      subst hW0
      go_wp2_with (first | (refine wpList_buildFlatAt rfl 24 3 37 _ rfl .i64 kinds _ rfl _ rfl Try.underlying24 (by kernel_rfl) (by kernel_rfl) (by rfl) (by decide) (by decide) (by kernel_rfl) ?_) | (refine wpList_buildFlatAt rfl 24 3 25 _ rfl .i64 most _ rfl _ rfl Try.underlying24 (by kernel_rfl) (by kernel_rfl) (by rfl) (by decide) (by decide) (by kernel_rfl) ?_))
      go_loopw [7] (fun c wr => ∃ i : Nat, c = .int .i64 i ∧ i ≤ 37 ∧ New w wr ∧ Blk wr W0.heap.size 3 (rowZ kinds) ∧ Blk wr (W0.heap.size + 1) 3 (rowZ kinds) ∧ Blk wr (W0.heap.size + 1 + 1) 3 (rowZ most) ∧ Blk wr (W0.heap.size + 1 + 1 + 1) 3 (rowZ most)) (fun c _ => 37 - (intOf c).toNat)
      case atStart =>
        refine ⟨0, rfl, by omega, (((hnw.alloc _).alloc _).alloc _).alloc _, ?_, ?_, ?_, ?_⟩
        · exact (((Blk.fresh W0 _ _).alloc _).alloc _).alloc _
        · exact ((top _ _ _ _ (by simp)).alloc _).alloc _
        · exact (top _ _ _ _ (by simp)).alloc _
        · exact top _ _ _ _ (by simp)
      case round =>
        obtain ⟨i, rfl, hi, hnw, hA, hB, hC, hD⟩ := hrel
        by_cases hlt : i < 37
        · obtain ⟨v, hv⟩ : ∃ v, kinds[i]'hlt = v := ⟨_, rfl⟩
          have c0 : wr.cell? ⟨W0.heap.size, i, none⟩ = some (.int .i64 v) := by rw [hA.cell i, rowZ_at kinds hlt, hv]
          have c1 : wr.cell? ⟨W0.heap.size + 1, i, none⟩ = some (.int .i64 v) := by rw [hB.cell i, rowZ_at kinds hlt, hv]
          have z0 : (0 : Int) ≤ (i : Int) := by omega
          have z1 : (i : Int) < 37 := by omega
          clear hv
          go_wp2
          go_quiet (fail)
          go_wp2
          go_roundw
          case rel => exact ⟨i + 1, by go_num, by omega, hnw.drewN _, hA, hB, hC, hD⟩
          case measure => simp [intOf]; omega
        · have hin : i = 37 := by omega
          subst hin
          obtain ⟨W1, hW1⟩ : ∃ W1, W1 = wr := ⟨_, rfl⟩
          subst hW1
          go_wp2
          go_loopw [8] (fun c wr => ∃ i : Nat, c = .int .i64 i ∧ i ≤ 25 ∧ New w wr ∧ Blk wr (W0.heap.size + 1 + 1) 3 (rowZ most) ∧ Blk wr (W0.heap.size + 1 + 1 + 1) 3 (rowZ most)) (fun c _ => 25 - (intOf c).toNat)
          case atStart => exact ⟨0, rfl, by omega, hnw, hC, hD⟩
          case round =>
            obtain ⟨i, rfl, hi, hnw, hC, hD⟩ := hrel
            by_cases hlt : i < 25
            · obtain ⟨v, hv⟩ : ∃ v, most[i]'hlt = v := ⟨_, rfl⟩
              have c0 : wr.cell? ⟨W0.heap.size + 1 + 1, i, none⟩ = some (.int .i64 v) := by rw [hC.cell i, rowZ_at most hlt, hv]
              have c1 : wr.cell? ⟨W0.heap.size + 1 + 1 + 1, i, none⟩ = some (.int .i64 v) := by rw [hD.cell i, rowZ_at most hlt, hv]
              have z0 : (0 : Int) ≤ (i : Int) := by omega
              have z1 : (i : Int) < 25 := by omega
              clear hv
              go_wp2
              go_quiet (fail)
              go_wp2
              go_roundw
              case rel => exact ⟨i + 1, by go_num, by omega, hnw.drewN _, hC, hD⟩
              case measure => simp [intOf]; omega
            · have hin : i = 25 := by omega
              subst hin
              go_wp2
              go_ret
              exact ⟨by simp, hnw⟩
end Go.Proofs.Ytpknpmmcploacaa.names
