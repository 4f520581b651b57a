/-
  The walk of the law PoolPlays.
-/
import Derived.Test.YtmpaheaedaeakaaRows
import Derived.Test.YtmpaheaedaeakaaPoolSame
import Derived.Test.YtmpaheaedaeakaaPoolOpen
namespace Go.Proofs.Ytmpaheaedaeakaa.poolPlays
open Go.ChangeShapes Go.WideShapes Go.ChangeAt Go.RowKit Go.Proofs.Ytmpaheaedaeakaa.kit Go.Proofs.Ytmpaheaedaeakaa.pool
set_option linter.unusedVariables false
theorem core_of (cd : Int) (T : Nat → Td) (m : Nat) (hm : m ≤ 300) (v : Value) (w : World)
    (h1 : Calls Try.prog 4 #[v] w (PlO T m cd w)) (h2 : ∀ w', New w w' → Calls Try.prog 5 #[v] w' (PlO T m cd w')) :
    Calls Try.prog 3 #[v] w fun e w' => e = .returned (.bool true) ∧ New w w' := by
  have g1 := Lib.hid h1
  have g2 := Lib.hid h2
  clear h1 h2
  go_enter Try.func3, Try.ntmps3
  go_wp2_with fail
  refine g1.out.mono ?_
  rintro e w1 ⟨⟨v1, dv1, nv1, rfl, ho1, hd1⟩, hn1⟩
  have ho1' := Lib.hid ho1
  have hd1' := Lib.hid hd1
  clear ho1 hd1
  go_wp2_with fail
  refine (g2.out _ hn1).mono ?_
  rintro e w2 ⟨⟨v3, dv2, nv2, rfl, ho2, hd2⟩, hn2⟩
  have ho2' := Lib.hid ho2
  have hd2' := Lib.hid hd2
  clear ho2 hd2
  go_wp2_with fail
  refine (sameTolds_eq T m hm v1 v3 dv1 nv1 dv2 nv2 _ _ w2 (own_new ho1'.out hn2) ho2'.out (fun j hj => ⟨(hd1'.out j hj).1.new hn2, (hd1'.out j hj).2.new hn2⟩) hd2'.out).mono ?_
  rintro e w3 ⟨rfl, hn3⟩
  go_wp2
  go_ret
  exact ⟨by simp, (hn1.next hn2).next hn3⟩
theorem core (A : Option Addr) (m c : Nat) (Cs : Nat → Cm) (dr kp : Nat → Int) (R : Nat → Option Addr) (dc : Nat → Nat) (w : World) (hJ : RdC w A m Cs dr kp R dc) :
    Calls Try.prog 3 #[.slice A m c] w fun e w' => e = .returned (.bool true) ∧ New w w' := by
  by_cases hm : 300 < m
  · exact core_of 1 (fun _ => Td.no 0) 0 (by omega) _ w (Play_long A m c _ w hm hJ.1) (fun w' _ => Played_long A m c _ w' hm hJ.1)
  · exact core_of 0 _ m (by omega) _ w (Play_ok m c A Cs dr kp R dc w (by omega) hJ) (fun w' hw => Played_ok m c A Cs dr kp R dc w' (by omega) (hJ.new hw))
set_option maxRecDepth 100000 in
theorem walk {H : Type} (enc : TypeId × Value → H) (W : World) {base : Nat} {v0 : Value} {d0 : DataW H} {p0 : List MemPlace} (ok0 : Value.okWide Try.prog W .any base 22 v0) (h0 : DataW.Trod enc Try.prog W 0 (fun _ => true) true 22 v0 d0 p0)
    (hsz : (DataW.weightsEach Try.prog (Try.f3.params.toList ++ Rows.poolPlaysSpec.plain.varTypes Try.prog) ([d0] ++ [])).all (· ≤ reachBytes) = true) :
    Calls Try.prog 3 #[v0] W fun e W' => e = .returned (.bool true) ∧ Below W.heap.size W W' := by
  obtain ⟨A, m, c, Cs, dr, kp, R, dc, rfl, hJ⟩ := open_commands ok0 h0
  exact core _ _ _ _ _ _ _ _ W hJ
end Go.Proofs.Ytmpaheaedaeakaa.poolPlays
