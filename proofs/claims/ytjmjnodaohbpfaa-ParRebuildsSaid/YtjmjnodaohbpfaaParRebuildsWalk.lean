/-
  The walk of the law ParRebuilds.
-/
import Derived.Test.YtjmjnodaohbpfaaRows
import Derived.Test.YtjmjnodaohbpfaaRbRef2
import Derived.Test.YtjmjnodaohbpfaaLists
import Derived.Test.YtjmjnodaohbpfaaMatOpen
namespace Go.Proofs.Ytjmjnodaohbpfaa.parRebuilds
open Go.ChangeShapes Go.WideShapes Go.ChangeAt Go.RowKit Go.Proofs.Ytjmjnodaohbpfaa.kit Go.Proofs.Ytjmjnodaohbpfaa.par Go.Proofs.Ytjmjnodaohbpfaa.lists
set_option linter.unusedVariables false
set_option maxRecDepth 100000 in
theorem walk {H : Type} (enc : TypeId × Value → H) (W : World) {base : Nat} {v0 : Value} {d0 : DataW H} {p0 : List MemPlace} (ok0 : Value.okWide Try.prog W .any base 22 v0) (h0 : DataW.Trod enc Try.prog W 0 (fun _ => true) true 22 v0 d0 p0) {v1 : Value} {d1 : DataW H} {p1 : List MemPlace} (ok1 : Value.okWide Try.prog W .any base 3 v1) (h1 : DataW.Trod enc Try.prog W 0 (fun _ => true) true 3 v1 d1 p1) {v2 : Value} {d2 : DataW H} {p2 : List MemPlace} (ok2 : Value.okWide Try.prog W .any base 29 v2) (h2 : DataW.Trod enc Try.prog W 0 (fun _ => true) true 29 v2 d2 p2)
    (hsz : (DataW.weightsEach Try.prog (Try.f5.params.toList ++ Rows.parRebuildsSpec.plain.varTypes Try.prog) ([d0, d1, d2] ++ [])).all (· ≤ reachBytes) = true) :
    Calls Try.prog 5 #[v0, v1, v2] W fun e W' => e = .returned (.bool true) ∧ Below W.heap.size W W' := by
  obtain ⟨A, n, c, R, L, C, M, rfl, hM, hc, hcm, hb⟩ := open_cols ok0 h0
  obtain ⟨p, rfl, rfl, rfl, w1⟩ := open_int Try.underlying3 ok1 h1
  obtain ⟨B, m, d, D, rfl, hD, hmd, hdm, hDb⟩ := mat.open_ints ok2 h2
  have hM0 := Lib.hid hM
  have hb0 := Lib.hid hb
  have hD0 := Lib.hid hD
  have hp1 : Hid (-9223372036854775808 ≤ p) := (bounds_i64 w1).1
  have hp2 : Hid (p ≤ 9223372036854775807) := (bounds_i64 w1).2
  clear hM hb hD hDb hsz ok0 ok1 ok2 h0 h1 h2 w1
  obtain ⟨ln, hln⟩ : ∃ ln, Hid (ln = if rbCode n L p D m = 0 then n else 0) := ⟨_, rfl⟩
  obtain ⟨cd, hcd⟩ : ∃ cd, Hid (cd = rbCode n L p D m) := ⟨_, rfl⟩
  have hA : Hid (Calls Try.prog 13 #[.slice A n c, .int .i64 p, .slice B m d] W fun e w' => ∃ A1 c1 Ad Cp, e = .returned (.tuple #[.slice A1 ln c1, .int .i64 cd]) ∧ RdM .u8 w' A1 ln Ad (fun _ => lSize (gn D m) L n) Cp (fun k t => (rbF (gn D m) (n - p.toNat) p.toNat M k t : Nat)) ∧ New W w') := by
    rw [hln.out, hcd.out]
    exact Rebuild_any n c m d p A B D R L C M W hM0.out hb0.out hD0.out hp1.out hp2.out
  have hB : Hid (∀ w, New W w → Calls Try.prog 14 #[.slice A n c, .int .i64 p, .slice B m d] w fun e w' => ∃ A1 c1 Ad Cp, e = .returned (.tuple #[.slice A1 ln c1, .int .i64 cd]) ∧ RdM .u8 w' A1 ln Ad (fun _ => lSize (gn D m) L n) Cp (fun k t => (rbF (gn D m) (n - p.toNat) p.toNat M k t : Nat)) ∧ New w w') := fun w hn => by
    rw [hln.out, hcd.out]
    exact ParRebuild_any n c m d p A B D R L C M w (hM0.out.new hn) hb0.out (hD0.out.new hn) hmd hp1.out hp2.out
  clear hM0 hb0 hD0 hln hcd
  go_enter Try.func5, Try.ntmps5
  go_wp2_with fail
  refine hA.out.mono ?_
  rintro e w1 ⟨A1, c1, Ad1, Cp1, rfl, hR1, hn1⟩
  have hR1' := Lib.hid hR1
  have hN1 := Lib.hid hn1
  clear hR1 hn1 hA
  go_wp2_with fail
  refine (hB.out _ hN1.out).mono ?_
  rintro e w2 ⟨A2, c2, Ad2, Cp2, rfl, hR2, hn2⟩
  have hR2' := Lib.hid hR2
  have hR3 := Lib.hid (hR1'.out.new hn2)
  have hN2 := Lib.hid (hN1.out.next hn2)
  clear hR2 hn2 hB
  go_wp2_with fail
  refine (sameLists_eq _ _ _ _ _ _ _ _ _ _ _ _ _ _ hR3.out hR2'.out fun i hi => ⟨rfl, fun j hj => rfl⟩).mono ?_
  rintro e w3 ⟨rfl, hn3⟩
  have hN3 := Lib.hid (hN2.out.next hn3)
  clear hn3
  go_wp2
  go_ret
  exact ⟨by simp, hN3.out⟩
end Go.Proofs.Ytjmjnodaohbpfaa.parRebuilds
