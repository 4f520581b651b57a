/-
  The walk of the law LabelEncodes.
-/
import Derived.Test.YthkgcbjfgglciaaRows
import Derived.Test.YthkgcbjfgglciaaLabelRef
import Derived.Test.YthkgcbjfgglciaaLabelOpen
namespace Go.Proofs.Ythkgcbjfgglciaa.labelEncodes
open Go.ChangeShapes Go.WideShapes Go.ChangeAt Go.RowKit Go.Proofs.Ythkgcbjfgglciaa.kit Go.Proofs.Ythkgcbjfgglciaa.label Go.Proofs.Ythkgcbjfgglciaa.flet
set_option linter.unusedVariables false
theorem nil_rdB (w : World) (F : Nat → Nat) : RdB w none 0 F := ⟨Nat.zero_le _, fun i h => absurd h (Nat.not_lt_zero i), fun h => absurd h (Nat.lt_irrefl 0)⟩
set_option maxRecDepth 100000 in
theorem core (X : Nat → Int) (w : World) (hX : ∀ i, i < 13 → i64P (X i)) : Calls Try.prog 10 #[.agg (labC X)] w fun e w' => e = .returned (.bool true) ∧ New w w' := by
  have hX0 := Lib.hid hX
  have hbox := Blk.fresh w 41 (labC X)
  have hN0 := Lib.hid ((New.refl w).alloc (.cells (labC X) 41))
  clear hX
  by_cases h : okX X
  · have h0 := Lib.hid h
    clear h
    go_enter Try.func10, Try.ntmps10
    go_wp2_with fail
    refine (Encode_ok X _ h0.out hX0.out).mono ?_
    rintro e w1 ⟨g1, rfl, hr1, hn1⟩
    have hbx := hbox.new hn1
    have hr1' := Lib.hid hr1
    have hN1 := Lib.hid (hN0.out.next hn1)
    have c0 := hbx.cell 0
    have c1 := hbx.cell 1
    have c2 := hbx.cell 2
    have c3 := hbx.cell 3
    have c4 := hbx.cell 4
    have c5 := hbx.cell 5
    have c6 := hbx.cell 6
    have c7 := hbx.cell 7
    have c8 := hbx.cell 8
    have c9 := hbx.cell 9
    have c10 := hbx.cell 10
    have c11 := hbx.cell 11
    have c12 := hbx.cell 12
    simp at c0 c1 c2 c3 c4 c5 c6 c7 c8 c9 c10 c11 c12
    clear hn1 hr1
    go_wp2_with fail
    refine (LabelEncoded_ok X _ h0.out hX0.out).mono ?_
    rintro e w2 ⟨A2, k2, rfl, hr2, hn2⟩
    have hr2' := Lib.hid hr2
    have hN2 := Lib.hid (hN1.out.next hn2)
    have hr3 := Lib.hid (hr1'.out.new hn2)
    clear c0 c1 c2 c3 c4 c5 c6 c7 c8 c9 c10 c11 c12 hr2 hn2 hbx hbox
    go_wp2_with fail
    refine (sameBytes_eq _ _ 128 128 k2 _ _ _ hr3.out hr2'.out fun i _ => rfl).mono ?_
    rintro e w3 ⟨rfl, hn3⟩
    have hN3 := Lib.hid (hN2.out.next hn3)
    clear hn3
    go_wp2
    go_ret
    exact ⟨rfl, hN3.out⟩
  · have h0 := Lib.hid h
    clear h
    go_enter Try.func10, Try.ntmps10
    go_wp2_with fail
    refine (Encode_bad X _ h0.out).mono ?_
    rintro e w1 ⟨rfl, hn1⟩
    have hbx := hbox.new hn1
    have hN1 := Lib.hid (hN0.out.next hn1)
    have c0 := hbx.cell 0
    have c1 := hbx.cell 1
    have c2 := hbx.cell 2
    have c3 := hbx.cell 3
    have c4 := hbx.cell 4
    have c5 := hbx.cell 5
    have c6 := hbx.cell 6
    have c7 := hbx.cell 7
    have c8 := hbx.cell 8
    have c9 := hbx.cell 9
    have c10 := hbx.cell 10
    have c11 := hbx.cell 11
    have c12 := hbx.cell 12
    simp at c0 c1 c2 c3 c4 c5 c6 c7 c8 c9 c10 c11 c12
    clear hn1
    go_wp2_with fail
    refine (LabelEncoded_bad X _ h0.out).mono ?_
    rintro e w2 ⟨rfl, hn2⟩
    have hN2 := Lib.hid (hN1.out.next hn2)
    clear c0 c1 c2 c3 c4 c5 c6 c7 c8 c9 c10 c11 c12 hn2 hbx hbox
    go_wp2_with fail
    refine (sameBytes_eq none none 0 0 0 (fun _ => 0) (fun _ => 0) _ (nil_rdB _ _) (nil_rdB _ _) fun i _ => rfl).mono ?_
    rintro e w3 ⟨rfl, hn3⟩
    have hN3 := Lib.hid (hN2.out.next hn3)
    clear hn3
    go_wp2
    go_ret
    exact ⟨rfl, hN3.out⟩
def of13 (pool drive drives parity time addr count bytes birth a b c d : Int) : Nat → Int
  | 0 => pool
  | 1 => drive
  | 2 => drives
  | 3 => parity
  | 4 => time
  | 5 => addr
  | 6 => count
  | 7 => bytes
  | 8 => birth
  | 9 => a
  | 10 => b
  | 11 => c
  | _ => d
theorem of13_all (P : Int → Prop) {pool drive drives parity time addr count bytes birth a b c d : Int} (h0 : P pool) (h1 : P drive) (h2 : P drives) (h3 : P parity) (h4 : P time) (h5 : P addr) (h6 : P count) (h7 : P bytes) (h8 : P birth) (h9 : P a) (h10 : P b) (h11 : P c) (h12 : P d) (k : Nat) (hk : k < 13) :
    P (of13 pool drive drives parity time addr count bytes birth a b c d k) := by
  match k, hk with
  | 0, _ => exact h0
  | 1, _ => exact h1
  | 2, _ => exact h2
  | 3, _ => exact h3
  | 4, _ => exact h4
  | 5, _ => exact h5
  | 6, _ => exact h6
  | 7, _ => exact h7
  | 8, _ => exact h8
  | 9, _ => exact h9
  | 10, _ => exact h10
  | 11, _ => exact h11
  | 12, _ => exact h12
theorem of13_lab (pool drive drives parity time addr count bytes birth a b c d : Int) : lab pool drive drives parity time addr count bytes birth a b c d = .agg (labC (of13 pool drive drives parity time addr count bytes birth a b c d)) := rfl
set_option maxRecDepth 100000 in
theorem walk {H : Type} (enc : TypeId × Value → H) (W : World) {base : Nat} {v0 : Value} {d0 : DataW H} {p0 : List MemPlace} (ok0 : Value.okWide Try.prog W .any base 41 v0) (h0 : DataW.Trod enc Try.prog W 0 (fun _ => true) true 41 v0 d0 p0)
    (hsz : (DataW.weightsEach Try.prog (Try.f10.params.toList ++ Rows.labelEncodesSpec.plain.varTypes Try.prog) ([d0] ++ [])).all (· ≤ reachBytes) = true) :
    Calls Try.prog 10 #[v0] W fun e W' => e = .returned (.bool true) ∧ Below W.heap.size W W' := by
  obtain ⟨pool, drive, drives, parity, time, addr, count, bytes, birth, a, b, c, d, rfl, w0, w1, w2, w3, w4, w5, w6, w7, w8, w9, w10, w11, w12⟩ := open_label ok0 h0
  rw [of13_lab]
  exact core _ W fun i hi => of13_all i64P (bounds_i64 w0) (bounds_i64 w1) (bounds_i64 w2) (bounds_i64 w3) (bounds_i64 w4) (bounds_i64 w5) (bounds_i64 w6) (bounds_i64 w7) (bounds_i64 w8) (bounds_i64 w9) (bounds_i64 w10) (bounds_i64 w11) (bounds_i64 w12) i hi
end Go.Proofs.Ythkgcbjfgglciaa.labelEncodes
