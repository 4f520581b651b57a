/-
  The walk of the law LabelBests.
-/
import Derived.Test.YthkgcbjfgglciaaRows
import Derived.Test.YthkgcbjfgglciaaLabelBest
import Derived.Test.YthkgcbjfgglciaaOpen
namespace Go.Proofs.Ythkgcbjfgglciaa.labelBests
open Go.ChangeShapes Go.WideShapes Go.ChangeAt Go.RowKit Go.Proofs.Ythkgcbjfgglciaa.kit Go.Proofs.Ythkgcbjfgglciaa.label Go.Proofs.Ythkgcbjfgglciaa.flet Go.Joins Go.Deep
set_option linter.unusedVariables false
set_option maxRecDepth 100000 in
theorem open_cols {H : Type} {enc : TypeId × Value → H} {W : World} {base : Nat} {v : Value} {d : DataW H} {p : List MemPlace} (ok : Value.okWide Try.prog W .any base 51 v)
    (h : DataW.Trod enc Try.prog W 0 (fun _ => true) true 51 v d p) :
    ∃ (A : Option Addr) (n c : Nat) (R : Nat → Option Addr) (L C : Nat → Nat) (M : Nat → Nat → Int), v = .slice A n c ∧ RdM .u8 W A n R L C M ∧ n ≤ c ∧ c ≤ maxLen ∧ ∀ i, i < n → ∀ j, j < L i → 0 ≤ M i j ∧ M i j ≤ 255 := by
  obtain ⟨A, n, c, rfl⟩ := okWide_slice Try.underlying51 ok
  obtain ⟨fuel, hf⟩ := h
  obtain ⟨A, n, c, R, L, C, M, hv, h1, h2, h3, h4⟩ := open_matI Try.underlying51 (by kernel_rfl) Try.underlying42 Try.underlying5 (by kernel_rfl) hf
  exact ⟨A, n, c, R, L, C, M, hv, h1, h2, h3, fun i hi j hj => bounds_u8 (h4 i hi j hj)⟩

set_option maxRecDepth 100000 in
theorem core (A : Option Addr) (n c : Nat) (R : Nat → Option Addr) (L C : Nat → Nat) (M : Nat → Nat → Int) (w : World) (hM : RdM .u8 w A n R L C M) (hb : ∀ i, i < n → ∀ k, k < L i → 0 ≤ M i k ∧ M i k ≤ 255) :
    Calls Try.prog 12 #[.slice A n c] w fun e w' => e = .returned (.bool true) ∧ New w w' := by
  have hM0 := Lib.hid hM
  have hb0 := Lib.hid hb
  clear hM hb
  go_enter Try.func12, Try.ntmps12
  go_wp2_with fail
  refine (Best_any A n c R L C M _ hM0.out hb0.out).mono ?_
  rintro e w1 ⟨⟨r, hr, rfl⟩, hn1⟩
  have hr1 := Lib.hid hr
  have hN1 := Lib.hid hn1
  clear hr hn1
  obtain ⟨Z, hZ⟩ : ∃ Z, Hid (ansX (fun i => decX (L i) (fun k => (M i k).toNat)) r = Z) := ⟨_, (rfl : _ = _)⟩
  obtain ⟨ia, hia⟩ : ∃ ia, Hid (ansI r = ia) := ⟨_, (rfl : _ = _)⟩
  obtain ⟨ca, hca⟩ : ∃ ca, Hid (ansC r = ca) := ⟨_, (rfl : _ = _)⟩
  rw [hZ.out, hia.out, hca.out]
  have hb2 := Lib.hid (Blk.fresh w1 41 (labC Z))
  have hN2 := Lib.hid (hN1.out.alloc (.cells (labC Z) 41))
  go_wp2_with fail
  refine (LabelBest_any A n c R L C M _ (hM0.out.new hN2.out) hb0.out).mono ?_
  rintro e w2 ⟨⟨r2, hr2, rfl⟩, hn2⟩
  have hrr : r2 = r := best_one hr2 hr1.out
  subst hrr
  rw [hZ.out, hia.out, hca.out]
  have hN3 := Lib.hid ((hN2.out.next hn2).alloc (.cells (labC Z) 41))
  have hb3 := hb2.out.new hn2
  have hlt : w1.heap.size < w2.heap.size := hb3.lt
  obtain ⟨r0, r1, r2, r3, r4, r5, r6, r7, r8, r9, r10, r11, r12⟩ := cells13 hb3
  have hr3 := Lib.hid hr2
  clear hn2 hr2
  go_wp2
  go_ret
  exact ⟨by simp, hN3.out⟩
set_option maxRecDepth 100000 in
theorem walk {H : Type} (enc : TypeId × Value → H) (W : World) {base : Nat} {v0 : Value} {d0 : DataW H} {p0 : List MemPlace} (ok0 : Value.okWide Try.prog W .any base 51 v0) (h0 : DataW.Trod enc Try.prog W 0 (fun _ => true) true 51 v0 d0 p0)
    (hsz : (DataW.weightsEach Try.prog (Try.f12.params.toList ++ Rows.labelBestsSpec.plain.varTypes Try.prog) ([d0] ++ [])).all (· ≤ reachBytes) = true) :
    Calls Try.prog 12 #[v0] W fun e W' => e = .returned (.bool true) ∧ Below W.heap.size W W' := by
  obtain ⟨A, n, c, R, L, C, M, rfl, hM, hc, hcm, hb⟩ := open_cols ok0 h0
  exact core A n c R L C M W hM hb
end Go.Proofs.Ythkgcbjfgglciaa.labelBests
