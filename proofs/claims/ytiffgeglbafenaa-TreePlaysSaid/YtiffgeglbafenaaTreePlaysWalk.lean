/-
  The walk of the law TreePlays.
-/
import Derived.Test.YtiffgeglbafenaaRows
import Derived.Test.YtiffgeglbafenaaTreeSame
namespace Go.Proofs.Ytiffgeglbafenaa.treePlays
open Go.ChangeShapes Go.WideShapes Go.ChangeAt Go.RowKit Go.Proofs.Ytiffgeglbafenaa.kit Go.Proofs.Ytiffgeglbafenaa.tree
set_option linter.unusedVariables false
theorem core_of (cd : Int) (Q : Nat → Sho) (m : Nat) (hm : m ≤ 300) (v : Value) (w : World)
    (h1 : Calls Try.prog 5 #[v] w (PlT Q m cd w)) (h2 : ∀ w', New w w' → Calls Try.prog 6 #[v] w' (PlT Q m cd w')) :
    Calls Try.prog 3 #[v] w fun e w' => e = .returned (.bool true) ∧ New w w' := by
  have g1 := Lib.hid h1
  have g2 := Lib.hid h2
  clear h1 h2
  go_enter Try.func3, Try.ntmps3
  go_wp2_with fail
  refine g1.out.mono ?_
  rintro e w1 ⟨⟨v1, dv1, rfl, ho1, hd1⟩, hn1⟩
  have ho1' := Lib.hid ho1
  have hd1' := Lib.hid hd1
  clear ho1 hd1
  go_wp2_with fail
  refine (g2.out _ hn1).mono ?_
  rintro e w2 ⟨⟨v3, dv2, rfl, ho2, hd2⟩, hn2⟩
  have ho2' := Lib.hid ho2
  have hd2' := Lib.hid hd2
  clear ho2 hd2
  go_wp2_with fail
  refine (sameShowns_eq Q m hm v1 v3 dv1 dv2 _ _ w2 (own_new ho1'.out hn2) ho2'.out (fun j hj => (hd1'.out j hj).new hn2) hd2'.out).mono ?_
  rintro e w3 ⟨rfl, hn3⟩
  go_wp2
  go_ret
  exact ⟨by simp, (hn1.next hn2).next hn3⟩
theorem core (A : Option Addr) (m c : Nat) (K V O C : Nat → Int) (R : Nat → Option Addr) (L X : Nat → Nat) (D : Nat → Nat → Nat) (w : World) (hJ : RdS w A m K V O C R L X D) :
    Calls Try.prog 3 #[.slice A m c] w fun e w' => e = .returned (.bool true) ∧ New w w' := by
  by_cases hm : 300 < m
  · exact core_of 1 (fun _ => Sho.no 0) 0 (by omega) _ w (Play_long A m c _ w hm hJ.1) (fun w' _ => Ref_long A m c _ w' hm hJ.1)
  · exact core_of 0 _ m (by omega) _ w (Play_ok m c A K V O C R L X D w (by omega) hJ) (fun w' hw => Ref_ok m c A K V O C R L X D w' (by omega) (hJ.new hw))
set_option maxRecDepth 100000 in
theorem walk {H : Type} (enc : TypeId × Value → H) (W : World) {base : Nat} {v0 : Value} {d0 : DataW H} {p0 : List MemPlace} (ok0 : Value.okWide Try.prog W .any base 22 v0) (h0 : DataW.Trod enc Try.prog W 0 (fun _ => true) true 22 v0 d0 p0)
    (hsz : (DataW.weightsEach Try.prog (Try.f3.params.toList ++ Rows.treePlaysSpec.plain.varTypes Try.prog) ([d0] ++ [])).all (· ≤ reachBytes) = true) :
    Calls Try.prog 3 #[v0] W fun e W' => e = .returned (.bool true) ∧ Below W.heap.size W W' := by
  obtain ⟨A, m, c, K, V, O, C, R, L, X, D, rfl, hJ⟩ := open_steps ok0 h0
  exact core _ _ _ _ _ _ _ _ _ _ _ W hJ
end Go.Proofs.Ytiffgeglbafenaa.treePlays
