/-
  The walk of the law ParEncodes.
-/
import Derived.Test.YtjmjnodaohbpfaaRows
import Derived.Test.YtjmjnodaohbpfaaParRefEnc
import Derived.Test.YtjmjnodaohbpfaaLists
namespace Go.Proofs.Ytjmjnodaohbpfaa.parEncodes
open Go.ChangeShapes Go.WideShapes Go.ChangeAt Go.RowKit Go.Proofs.Ytjmjnodaohbpfaa.kit Go.Proofs.Ytjmjnodaohbpfaa.par Go.Proofs.Ytjmjnodaohbpfaa.lists
set_option linter.unusedVariables false
set_option maxRecDepth 100000 in
theorem walk {H : Type} (enc : TypeId × Value → H) (W : World) {base : Nat} {v0 : Value} {d0 : DataW H} {p0 : List MemPlace} (ok0 : Value.okWide Try.prog W .any base 22 v0) (h0 : DataW.Trod enc Try.prog W 0 (fun _ => true) true 22 v0 d0 p0) {v1 : Value} {d1 : DataW H} {p1 : List MemPlace} (ok1 : Value.okWide Try.prog W .any base 3 v1) (h1 : DataW.Trod enc Try.prog W 0 (fun _ => true) true 3 v1 d1 p1)
    (hsz : (DataW.weightsEach Try.prog (Try.f4.params.toList ++ Rows.parEncodesSpec.plain.varTypes Try.prog) ([d0, d1] ++ [])).all (· ≤ reachBytes) = true) :
    Calls Try.prog 4 #[v0, v1] W fun e W' => e = .returned (.bool true) ∧ Below W.heap.size W W' := by
  obtain ⟨A, n, c, R, L, C, M, rfl, hM, hc, hcm, hb⟩ := open_cols ok0 h0
  obtain ⟨p, rfl, rfl, rfl, w1⟩ := open_int Try.underlying3 ok1 h1
  have hM0 := Lib.hid hM
  have hb0 := Lib.hid hb
  clear hM hb hsz ok0 ok1 h0 h1
  go_enter Try.func4, Try.ntmps4
  go_wp2_with fail
  refine (Encode_any A n c p R L C M _ hM0.out hb0.out).mono ?_
  rintro e w1 ⟨v1, rfl, ⟨B1, d1, R1, C1, rfl, hR1⟩, hn1⟩
  have hR1' := Lib.hid hR1
  have hN1 := Lib.hid hn1
  clear hR1 hn1
  go_wp2_with fail
  refine (ParEncode_any A n c p R L C M _ (hM0.out.new hN1.out) hb0.out).mono ?_
  rintro e w2 ⟨v2, rfl, ⟨B2, d2, R2, C2, rfl, hR2⟩, hn2⟩
  have hR2' := Lib.hid hR2
  have hR3 := Lib.hid (hR1'.out.new hn2)
  have hN2 := Lib.hid (hN1.out.next hn2)
  clear hR2 hn2
  go_wp2_with fail
  refine (sameLists_eq _ _ _ _ _ _ _ _ _ _ _ _ _ _ hR3.out hR2'.out fun i hi => ⟨rfl, fun j hj => rfl⟩).mono ?_
  rintro e w3 ⟨rfl, hn3⟩
  have hN3 := Lib.hid (hN2.out.next hn3)
  clear hn3
  go_wp2
  go_ret
  exact ⟨by simp, hN3.out⟩
end Go.Proofs.Ytjmjnodaohbpfaa.parEncodes
