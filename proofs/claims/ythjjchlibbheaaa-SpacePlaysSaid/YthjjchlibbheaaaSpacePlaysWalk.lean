/-
  The walk of the law SpacePlays.
-/
import Derived.Test.YthjjchlibbheaaaRows
import Derived.Test.YthjjchlibbheaaaSpaceSame
namespace Go.Proofs.Ythjjchlibbheaaa.spacePlays
open Go.ChangeShapes Go.WideShapes Go.ChangeAt Go.RowKit Go.Proofs.Ythjjchlibbheaaa.kit Go.Proofs.Ythjjchlibbheaaa.space
set_option linter.unusedVariables false
theorem core_of (cd : Int) (fl : Fnds) (rl : Recs) (hfl : fl.length ≤ 300) (hrl : rl.length ≤ 2000000) (n : Int) (v : Value) (w : World)
    (h1 : Calls Try.prog 16 #[.int .i64 n, v] w (AnsP cd fl rl w)) (h2 : ∀ w', New w w' → Calls Try.prog 17 #[.int .i64 n, v] w' (AnsP cd fl rl w')) :
    Calls Try.prog 5 #[.int .i64 n, v] w fun e w' => e = .returned (.bool true) ∧ New w w' := by
  have g1 := Lib.hid h1
  have g2 := Lib.hid h2
  clear h1 h2
  go_enter Try.func5, Try.ntmps5
  go_wp2_with fail
  refine g1.out.mono ?_
  rintro e w1 ⟨v1, v2, rfl, ho1, hr1, hn1⟩
  have ho1' := Lib.hid ho1
  have hr1' := Lib.hid hr1
  clear ho1 hr1
  go_wp2_with fail
  refine (g2.out _ hn1).mono ?_
  rintro e w2 ⟨v3, v4, rfl, ho2, hr2, hn2⟩
  have ho2' := Lib.hid ho2
  have hr2' := Lib.hid hr2
  clear ho2 hr2
  go_wp2_with fail
  refine (sameFounds_eq2 fl hfl v1 v3 _ _ w2 (own_new ho1'.out hn2) ho2'.out).mono ?_
  rintro e w3 ⟨rfl, hn3⟩
  go_wp2_with fail
  refine (sameRecords_eq2 rl hrl v2 v4 _ _ w3 (own_new (own_new hr1'.out hn2) hn3) (own_new hr2'.out hn3)).mono ?_
  rintro e w4 ⟨rfl, hn4⟩
  go_wp2
  go_ret
  exact ⟨by simp, ((hn1.next hn2).next hn3).next hn4⟩
theorem core (n : Int) (A : Option Addr) (m c : Nat) (K F C : Nat → Int) (w : World) (hR : RdD w A m K F C) :
    Calls Try.prog 5 #[.int .i64 n, .slice A m c] w fun e w' => e = .returned (.bool true) ∧ New w w' := by
  by_cases hs : sizeP n
  · by_cases hm : 300 < m
    · exact core_of 1 [] [] (by simp) (by simp) n _ w (Play_long n A m c w hs hm hR.1) (fun w' _ => SpacePlayed_long n A m c w' hs hm hR.1)
    · obtain ⟨n, rfl⟩ : ∃ k : Nat, (k : Int) = n := ⟨n.toNat, by have := hs.1; omega⟩
      have h1 : 1 ≤ n := by have := hs.1; omega
      have hn : n ≤ 4096 := by have := hs.2; omega
      exact core_of 0 _ _ (by rw [pl_fnds]; omega) (by have := pl_recs n K F C hn m; omega) n _ w (Play_ok n m c A K F C w h1 hn (by omega) hR) (fun w' hw => SpacePlayed_ok n m c A K F C w' h1 hn (by omega) (hR.new hw))
  · exact core_of 2 [] [] (by simp) (by simp) n _ w (Play_bad n _ w hs) (fun w' _ => SpacePlayed_bad n _ w' hs)
set_option maxRecDepth 100000 in
theorem walk {H : Type} (enc : TypeId × Value → H) (W : World) {base : Nat} {v0 : Value} {d0 : DataW H} {p0 : List MemPlace} (ok0 : Value.okWide Try.prog W .any base 3 v0) (h0 : DataW.Trod enc Try.prog W 0 (fun _ => true) true 3 v0 d0 p0) {v1 : Value} {d1 : DataW H} {p1 : List MemPlace} (ok1 : Value.okWide Try.prog W .any base 32 v1) (h1 : DataW.Trod enc Try.prog W 0 (fun _ => true) true 32 v1 d1 p1)
    (hsz : (DataW.weightsEach Try.prog (Try.f5.params.toList ++ Rows.spacePlaysSpec.plain.varTypes Try.prog) ([d0, d1] ++ [])).all (· ≤ reachBytes) = true) :
    Calls Try.prog 5 #[v0, v1] W fun e W' => e = .returned (.bool true) ∧ Below W.heap.size W W' := by

  obtain ⟨a0, rfl, rfl, rfl, w0⟩ := open_int Try.underlying3 ok0 h0
  obtain ⟨A, m, c, K, F, C, rfl, hR⟩ := open_deeds ok1 h1
  exact core _ _ _ _ _ _ _ W hR
end Go.Proofs.Ythjjchlibbheaaa.spacePlays
