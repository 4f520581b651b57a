/-
  The walk of the law CombAlls.
-/
import Derived.Test.YtpknpmmcploacaaCombAll
import Derived.Test.YtpknpmmcploacaaCombOpen
import Derived.Test.YtpknpmmcploacaaRows
namespace Go.Proofs.Ytpknpmmcploacaa.combAlls
open Go.ChangeShapes Go.WideShapes Go.ChangeAt Go.RowKit Go.Proofs.Ytpknpmmcploacaa.kit Go.Proofs.Ytpknpmmcploacaa.comb Go.Deep
set_option linter.unusedVariables false
theorem core_bad (n k : Int) (w : World) (h : ¬ combP n k) : Calls Try.prog 13 #[.int .i64 n, .int .i64 k] w fun e w' => e = .returned (.bool true) ∧ New w w' := by
  have g1 := Lib.hid (fun w => All_bad n k w h)
  have g2 := Lib.hid (fun w => CombAll_bad n k w h)
  clear h
  go_enter Try.func13, Try.ntmps13
  go_wp2_with fail
  refine (g1.out _).mono ?_
  rintro e w1 ⟨rfl, rfl⟩
  go_wp2_with fail
  refine (g2.out _).mono ?_
  rintro e w1 ⟨rfl, rfl⟩
  go_wp2_with fail
  refine (sameMatrix_eq _ _ _ _ _ _ _ _ _ _ _ _ _ _ (nil_rdM w) (nil_rdM w) (fun i _ => ⟨rfl, rfl⟩)).mono ?_
  rintro e w3 ⟨rfl, hn3⟩
  go_wp2
  go_ret
  exact ⟨by simp, hn3⟩
theorem core_ok (n k : Nat) (w : World) (hn : n ≤ 12) (hk : k ≤ n) : Calls Try.prog 13 #[.int .i64 n, .int .i64 k] w fun e w' => e = .returned (.bool true) ∧ New w w' := by
  have g1 := Lib.hid (fun w => All_ok n k w hn hk)
  have g2 := Lib.hid (fun w => CombAll_ok n k w hn hk)
  go_enter Try.func13, Try.ntmps13
  go_wp2_with fail
  refine (g1.out _).mono ?_
  rintro e w1 ⟨A1, c1, R1, C1, rfl, hM1, hn1⟩
  have hM1H := Lib.hid hM1
  clear hM1
  go_wp2_with fail
  refine (g2.out _).mono ?_
  rintro e w2 ⟨A2, c2, R2, C2, rfl, hM2, hn2⟩
  have hM2H := Lib.hid hM2
  clear hM2
  go_wp2_with fail
  refine (sameMatrix_eq _ _ _ _ _ _ _ _ _ _ _ _ _ _ (hM1H.out.new hn2) hM2H.out (fun i _ => ⟨rfl, rfl⟩)).mono ?_
  rintro e w3 ⟨rfl, hn3⟩
  go_wp2
  go_ret
  exact ⟨by simp, (hn1.next hn2).next hn3⟩
theorem core (n k : Int) (w : World) : Calls Try.prog 13 #[.int .i64 n, .int .i64 k] w fun e w' => e = .returned (.bool true) ∧ New w w' := by
  by_cases h : combP n k
  · obtain ⟨m1, m2, m3, m4⟩ := id h
    obtain ⟨n, rfl⟩ : ∃ x : Nat, (x : Int) = n := ⟨n.toNat, by omega⟩
    obtain ⟨k, rfl⟩ : ∃ x : Nat, (x : Int) = k := ⟨k.toNat, by omega⟩
    exact core_ok n k w (by omega) (by omega)
  · exact core_bad n k w h
set_option maxRecDepth 100000 in
theorem walk {H : Type} (enc : TypeId × Value → H) (W : World) {base : Nat} {v0 : Value} {d0 : DataW H} {p0 : List MemPlace} (ok0 : Value.okWide Try.prog W .any base 3 v0) (h0 : DataW.Trod enc Try.prog W 0 (fun _ => true) true 3 v0 d0 p0) {v1 : Value} {d1 : DataW H} {p1 : List MemPlace} (ok1 : Value.okWide Try.prog W .any base 3 v1) (h1 : DataW.Trod enc Try.prog W 0 (fun _ => true) true 3 v1 d1 p1)
    (hsz : (DataW.weightsEach Try.prog (Try.f13.params.toList ++ Rows.combAllsSpec.plain.varTypes Try.prog) ([d0, d1] ++ [])).all (· ≤ reachBytes) = true) :
    Calls Try.prog 13 #[v0, v1] W fun e W' => e = .returned (.bool true) ∧ Below W.heap.size W W' := by
  obtain ⟨a0, rfl, rfl, rfl, w0⟩ := open_int Try.underlying3 ok0 h0
  obtain ⟨a1, rfl, rfl, rfl, w1⟩ := open_int Try.underlying3 ok1 h1
  exact core _ _ W
end Go.Proofs.Ytpknpmmcploacaa.combAlls
