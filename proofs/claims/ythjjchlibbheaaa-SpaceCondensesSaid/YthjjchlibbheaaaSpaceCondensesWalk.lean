/-
  The walk of the law SpaceCondenses.
-/
import Derived.Test.YthjjchlibbheaaaRows
import Derived.Test.YthjjchlibbheaaaSpaceCondense
import Derived.Test.YthjjchlibbheaaaSpaceOpen
namespace Go.Proofs.Ythjjchlibbheaaa.spaceCondenses
open Go.ChangeShapes Go.WideShapes Go.ChangeAt Go.RowKit Go.Proofs.Ythjjchlibbheaaa.kit Go.Proofs.Ythjjchlibbheaaa.space
set_option linter.unusedVariables false
theorem core_of (cd : Int) (L : List (Nat × Nat)) (hL : L.length ≤ 4097) (n : Int) (v : Value) (w : World)
    (h1 : Calls Try.prog 13 #[.int .i64 n, v] w (AnsC cd L w)) (h2 : ∀ w', New w w' → Calls Try.prog 14 #[.int .i64 n, v] w' (AnsC cd L w')) :
    Calls Try.prog 4 #[.int .i64 n, v] w fun e w' => e = .returned (.bool true) ∧ New w w' := by
  have g1 := Lib.hid h1
  have g2 := Lib.hid h2
  clear h1 h2
  go_enter Try.func4, Try.ntmps4
  go_wp2_with fail
  refine g1.out.mono ?_
  rintro e w1 ⟨v1, rfl, ho1, hn1⟩
  have ho1' := Lib.hid ho1
  clear ho1
  go_wp2_with fail
  refine (g2.out _ hn1).mono ?_
  rintro e w2 ⟨v2, rfl, ho2, hn2⟩
  have ho2' := Lib.hid ho2
  clear ho2
  go_wp2_with fail
  refine (sameRecords_eq L hL v1 v2 _ _ w2 (own_new ho1'.out hn2) ho2'.out).mono ?_
  rintro e w3 ⟨rfl, hn3⟩
  go_wp2
  go_ret
  exact ⟨by simp, (hn1.next hn2).next hn3⟩
theorem core (n : Int) (A : Option Addr) (m c : Nat) (B : Nat → Bool) (F T : Nat → Int) (w : World) (hR : RdR w A m B F T) :
    Calls Try.prog 4 #[.int .i64 n, .slice A m c] w fun e w' => e = .returned (.bool true) ∧ New w w' := by
  by_cases hs : sizeP n
  · by_cases hm : 4096 < m
    · exact core_of 1 [] (by simp) n _ w (Condense_code 1 (.inl rfl) n _ w (replayed_long n A m c w hs hm hR.1)) (fun w' _ => SpaceCondensed_code 1 (.inl rfl) n _ w' (spaceAgain_long n A m c w' hs hm hR.1))
    · obtain ⟨n, rfl⟩ : ∃ k : Nat, (k : Int) = n := ⟨n.toNat, by have := hs.1; omega⟩
      have h1 : 1 ≤ n := by have := hs.1; omega
      have hn : n ≤ 4096 := by have := hs.2; omega
      by_cases hok : okAll n B F T m
      · exact core_of _ _ (Nat.le_trans (listN_len _ _) (by omega)) n _ w (Condense_ok n m c A B F T w h1 hn (by omega) hR hok) (fun w' hw => SpaceCondensed_ok n m c A B F T w' h1 hn (by omega) (hR.new hw) hok)
      · exact core_of 4 [] (by simp) n _ w (Condense_no n m c A B F T w h1 hn (by omega) hR hok) (fun w' hw => SpaceCondensed_no n m c A B F T w' h1 hn (by omega) (hR.new hw) hok)
  · exact core_of 2 [] (by simp) n _ w (Condense_code 2 (.inr rfl) n _ w (replayed_bad n _ w hs)) (fun w' _ => SpaceCondensed_code 2 (.inr rfl) n _ w' (spaceAgain_bad n _ w' hs))
set_option maxRecDepth 100000 in
theorem walk {H : Type} (enc : TypeId × Value → H) (W : World) {base : Nat} {v0 : Value} {d0 : DataW H} {p0 : List MemPlace} (ok0 : Value.okWide Try.prog W .any base 3 v0) (h0 : DataW.Trod enc Try.prog W 0 (fun _ => true) true 3 v0 d0 p0) {v1 : Value} {d1 : DataW H} {p1 : List MemPlace} (ok1 : Value.okWide Try.prog W .any base 22 v1) (h1 : DataW.Trod enc Try.prog W 0 (fun _ => true) true 22 v1 d1 p1)
    (hsz : (DataW.weightsEach Try.prog (Try.f4.params.toList ++ Rows.spaceCondensesSpec.plain.varTypes Try.prog) ([d0, d1] ++ [])).all (· ≤ reachBytes) = true) :
    Calls Try.prog 4 #[v0, v1] W fun e W' => e = .returned (.bool true) ∧ Below W.heap.size W W' := by
  obtain ⟨a0, rfl, rfl, rfl, w0⟩ := open_int Try.underlying3 ok0 h0
  obtain ⟨A, m, c, B, F, T, rfl, hR⟩ := open_records ok1 h1
  exact core _ _ _ _ _ _ _ W hR
end Go.Proofs.Ythjjchlibbheaaa.spaceCondenses
