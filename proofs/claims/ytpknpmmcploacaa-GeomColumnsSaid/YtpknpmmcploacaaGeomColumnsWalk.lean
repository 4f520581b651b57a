/-
  The walk of the law GeomColumns.
-/
import Derived.Test.YtpknpmmcploacaaRows
import Derived.Test.YtpknpmmcploacaaGeomColSame
import Derived.Test.YtpknpmmcploacaaOpen
namespace Go.Proofs.Ytpknpmmcploacaa.geomColumns
open Go.ChangeShapes Go.WideShapes Go.ChangeAt Go.RowKit Go.Proofs.Ytpknpmmcploacaa.kit Go.Proofs.Ytpknpmmcploacaa.geom
set_option linter.unusedVariables false
theorem core (d p a c : Int) (w : World) : Calls Try.prog 6 #[.int .i64 d, .int .i64 p, .int .i64 a, .int .i64 c] w fun e w' => e = .returned (.bool true) ∧ New w w' := by
  by_cases h : mayP d p ∧ cntP c ∧ adrP a
  · obtain ⟨⟨m1, m2, m3, m4, m5⟩, ⟨c1, c2⟩, ⟨a1, a2⟩⟩ := h
    obtain ⟨dr, rfl⟩ : ∃ n : Nat, (n : Int) = d := ⟨d.toNat, by omega⟩
    obtain ⟨pa, rfl⟩ : ∃ n : Nat, (n : Int) = p := ⟨p.toNat, by omega⟩
    obtain ⟨ad, rfl⟩ : ∃ n : Nat, (n : Int) = a := ⟨a.toNat, by omega⟩
    obtain ⟨ct, rfl⟩ : ∃ n : Nat, (n : Int) = c := ⟨c.toNat, by omega⟩
    obtain ⟨wd, hwd⟩ : ∃ wd, dr = pa + wd := ⟨dr - pa, by omega⟩
    have k1 : 2 ≤ dr := by omega
    have k2 : dr ≤ 8 := by omega
    have k3 : 1 ≤ pa := by omega
    have k4 : pa ≤ 3 := by omega
    have k6 : 1 ≤ wd := by omega
    have k7 : ad ≤ 65536 := by omega
    have k8 : 1 ≤ ct := by omega
    have k9 : ct ≤ 32 := by omega
    have hN8 : numP dr pa ct wd ≤ 8 := by
      have := Nat.mod_lt ct k6
      unfold numP longP
      split
      · split <;> omega
      · exact k2
    have hP := fun w => Columns_ok dr pa ad ct wd k1 k2 k3 k4 hwd k6 k7 k8 k9 w
    have hQ := fun w => GeomColumns_ok dr pa ad ct wd k1 k2 k3 k4 hwd k6 k7 k8 k9 w
    generalize numP dr pa ct wd = N at *
    generalize cntC pa ct wd = C at *
    have hP1 := Lib.hid hP
    have hQ1 := Lib.hid hQ
    clear hP hQ hwd
    go_enter Try.func6, Try.ntmps6
    go_wp2_with fail
    refine (hP1.out _).mono ?_
    rintro e w1 ⟨v, rfl, ho1, hn1⟩
    have ho1' := Lib.hid ho1
    clear ho1
    go_wp2_with fail
    refine (hQ1.out _).mono ?_
    rintro e w2 ⟨v', rfl, ho2, hn2⟩
    have ho2' := Lib.hid ho2
    clear ho2
    go_wp2_with fail
    refine (sameColumns_eq dr pa ad N hN8 C v v' _ _ w2 (own_new ho1'.out hn2) ho2'.out).mono ?_
    rintro e w3 ⟨rfl, hn3⟩
    go_wp2
    go_ret
    exact ⟨by simp, (hn1.next hn2).next hn3⟩
  · go_enter Try.func6, Try.ntmps6
    go_wp2_with fail
    refine (Columns_bad _ _ _ _ _ h).mono ?_
    rintro e w1 ⟨rfl, hn1⟩
    go_wp2_with fail
    refine (GeomColumns_bad _ _ _ _ _ h).mono ?_
    rintro e w2 ⟨rfl, hn2⟩
    go_wp2_with fail
    refine (sameColumns_nil w2).mono ?_
    rintro e w3 ⟨rfl, hn3⟩
    go_wp2
    go_ret
    exact ⟨by simp, (hn1.next hn2).next hn3⟩
set_option maxRecDepth 100000 in
theorem walk {H : Type} (enc : TypeId × Value → H) (W : World) {base : Nat} {v0 : Value} {d0 : DataW H} {p0 : List MemPlace} (ok0 : Value.okWide Try.prog W .any base 3 v0) (h0 : DataW.Trod enc Try.prog W 0 (fun _ => true) true 3 v0 d0 p0) {v1 : Value} {d1 : DataW H} {p1 : List MemPlace} (ok1 : Value.okWide Try.prog W .any base 3 v1) (h1 : DataW.Trod enc Try.prog W 0 (fun _ => true) true 3 v1 d1 p1) {v2 : Value} {d2 : DataW H} {p2 : List MemPlace} (ok2 : Value.okWide Try.prog W .any base 3 v2) (h2 : DataW.Trod enc Try.prog W 0 (fun _ => true) true 3 v2 d2 p2) {v3 : Value} {d3 : DataW H} {p3 : List MemPlace} (ok3 : Value.okWide Try.prog W .any base 3 v3) (h3 : DataW.Trod enc Try.prog W 0 (fun _ => true) true 3 v3 d3 p3)
    (hsz : (DataW.weightsEach Try.prog (Try.f6.params.toList ++ Rows.geomColumnsSpec.plain.varTypes Try.prog) ([d0, d1, d2, d3] ++ [])).all (· ≤ reachBytes) = true) :
    Calls Try.prog 6 #[v0, v1, v2, v3] W fun e W' => e = .returned (.bool true) ∧ Below W.heap.size W W' := by
  obtain ⟨a0, rfl, rfl, rfl, w0⟩ := open_int Try.underlying3 ok0 h0
  obtain ⟨a1, rfl, rfl, rfl, w1⟩ := open_int Try.underlying3 ok1 h1
  obtain ⟨a2, rfl, rfl, rfl, w2⟩ := open_int Try.underlying3 ok2 h2
  obtain ⟨a3, rfl, rfl, rfl, w3⟩ := open_int Try.underlying3 ok3 h3
  exact core _ _ _ _ W
end Go.Proofs.Ytpknpmmcploacaa.geomColumns
