/-
  The walk of the law CombAts.
-/
import Derived.Test.YtpknpmmcploacaaRows
import Derived.Test.YtpknpmmcploacaaCombAt
import Derived.Test.YtpknpmmcploacaaOpen
namespace Go.Proofs.Ytpknpmmcploacaa.combAts
open Go.ChangeShapes Go.WideShapes Go.ChangeAt Go.RowKit Go.Proofs.Ytpknpmmcploacaa.kit Go.Proofs.Ytpknpmmcploacaa.comb
set_option linter.unusedVariables false
theorem core_bad (n k q : Int) (w : World)
    (h1 : ∀ w, Calls Try.prog 29 #[.int .i64 n, .int .i64 k, .int .i64 q] w fun e w' => e = .returned (.tuple #[.slice none 0 0, .int .i64 2]) ∧ w = w')
    (h2 : ∀ w, Calls Try.prog 30 #[.int .i64 n, .int .i64 k, .int .i64 q] w fun e w' => e = .returned (.tuple #[.slice none 0 0, .int .i64 2]) ∧ New w w') :
    Calls Try.prog 11 #[.int .i64 n, .int .i64 k, .int .i64 q] w fun e w' => e = .returned (.bool true) ∧ New w w' := by
  have g1 := Lib.hid h1
  have g2 := Lib.hid h2
  clear h1 h2
  go_enter Try.func11, Try.ntmps11
  go_wp2_with fail
  refine (g1.out _).mono ?_
  rintro e w1 ⟨rfl, rfl⟩
  go_wp2_with fail
  refine (g2.out _).mono ?_
  rintro e w2 ⟨rfl, hn2⟩
  go_wp2_with fail
  refine (sameInts_eq none none 0 0 0 (fun _ => 0) w2 (nil_rdI _ _) (nil_rdI _ _)).mono ?_
  rintro e w3 ⟨rfl, hn3⟩
  go_wp2
  go_ret
  exact ⟨by simp, hn2.next hn3⟩
theorem core_ok (n k q : Nat) (w : World) (hn : n ≤ 12) (hk : k ≤ n) (h : q < ch n k) :
    Calls Try.prog 11 #[.int .i64 n, .int .i64 k, .int .i64 q] w fun e w' => e = .returned (.bool true) ∧ New w w' := by
  have hlen := pickL_ch n 0 k hn (by omega)
  have hl : (pickL n 0 k)[q]? = some ((pickL n 0 k)[q]'(by omega)) := List.getElem?_eq_getElem (by omega)
  generalize (pickL n 0 k)[q]'(by omega) = l at hl
  have g1 := Lib.hid (fun w => At_ok n k q w hn hk h l hl)
  have g2 := Lib.hid (fun w => CombAt_ok n k q w hn hk h l hl)
  clear hlen hl h
  go_enter Try.func11, Try.ntmps11
  go_wp2_with fail
  refine (g1.out _).mono ?_
  rintro e w1 ⟨v, rfl, ho1, hn1⟩
  obtain ⟨A, c, rfl, hR⟩ := own_rdN ho1
  have hR1 := Lib.hid hR
  clear ho1 hR
  go_wp2_with fail
  refine (g2.out _).mono ?_
  rintro e w2 ⟨v', rfl, ⟨bp, gp, cp, rfl, ho2⟩, hn2⟩
  obtain ⟨A', c', he, hR'⟩ := own_rdN ho2
  injection he with he1 he2 he3
  subst he1 he3
  have hR2 := Lib.hid hR'
  clear ho2 hR'
  go_wp2_with fail
  refine (sameInts_eq _ _ _ _ _ _ w2 (hR1.out.new hn2) hR2.out).mono ?_
  rintro e w3 ⟨rfl, hn3⟩
  go_wp2
  go_ret
  exact ⟨by simp, (hn1.next hn2).next hn3⟩
theorem core (n k q : Int) (w : World) : Calls Try.prog 11 #[.int .i64 n, .int .i64 k, .int .i64 q] w fun e w' => e = .returned (.bool true) ∧ New w w' := by
  by_cases h : combP n k
  · obtain ⟨m1, m2, m3, m4⟩ := id h
    obtain ⟨n, rfl⟩ : ∃ x : Nat, (x : Int) = n := ⟨n.toNat, by omega⟩
    obtain ⟨k, rfl⟩ : ∃ x : Nat, (x : Int) = k := ⟨k.toNat, by omega⟩
    have hn : n ≤ 12 := by omega
    have hk : k ≤ n := by omega
    by_cases hq : q < 0
    · exact core_bad _ _ _ w (fun w => At_bad _ _ _ w (.inr hq)) (fun w => CombAt_over n k q w hn hk (.inl hq))
    · by_cases hq2 : (ch n k : Int) ≤ q
      · exact core_bad _ _ _ w (fun w => At_over n k q w hn hk hq2) (fun w => CombAt_over n k q w hn hk (.inr hq2))
      · obtain ⟨q, rfl⟩ : ∃ x : Nat, (x : Int) = q := ⟨q.toNat, by omega⟩
        exact core_ok n k q w hn hk (by omega)
  · exact core_bad _ _ _ w (fun w => At_bad _ _ _ w (.inl h)) (fun w => (CombAt_bad _ _ _ w h).mono fun e w' ⟨h1, h2⟩ => ⟨h1, h2 ▸ New.refl _⟩)
set_option maxRecDepth 100000 in
theorem walk {H : Type} (enc : TypeId × Value → H) (W : World) {base : Nat} {v0 : Value} {d0 : DataW H} {p0 : List MemPlace} (ok0 : Value.okWide Try.prog W .any base 3 v0) (h0 : DataW.Trod enc Try.prog W 0 (fun _ => true) true 3 v0 d0 p0) {v1 : Value} {d1 : DataW H} {p1 : List MemPlace} (ok1 : Value.okWide Try.prog W .any base 3 v1) (h1 : DataW.Trod enc Try.prog W 0 (fun _ => true) true 3 v1 d1 p1) {v2 : Value} {d2 : DataW H} {p2 : List MemPlace} (ok2 : Value.okWide Try.prog W .any base 3 v2) (h2 : DataW.Trod enc Try.prog W 0 (fun _ => true) true 3 v2 d2 p2)
    (hsz : (DataW.weightsEach Try.prog (Try.f11.params.toList ++ Rows.combAtsSpec.plain.varTypes Try.prog) ([d0, d1, d2] ++ [])).all (· ≤ reachBytes) = true) :
    Calls Try.prog 11 #[v0, v1, v2] W fun e W' => e = .returned (.bool true) ∧ Below W.heap.size W W' := by
  obtain ⟨a0, rfl, rfl, rfl, w0⟩ := open_int Try.underlying3 ok0 h0
  obtain ⟨a1, rfl, rfl, rfl, w1⟩ := open_int Try.underlying3 ok1 h1
  obtain ⟨a2, rfl, rfl, rfl, w2⟩ := open_int Try.underlying3 ok2 h2
  exact core _ _ _ W
end Go.Proofs.Ytpknpmmcploacaa.combAts
