/-
  The walk of the law DrivePlays.
-/
import Derived.Test.YthjjchlibbheaaaRows
import Derived.Test.YthjjchlibbheaaaDriveSame
namespace Go.Proofs.Ythjjchlibbheaaa.drivePlays
open Go.ChangeShapes Go.WideShapes Go.ChangeAt Go.RowKit Go.Proofs.Ythjjchlibbheaaa.kit Go.Proofs.Ythjjchlibbheaaa.drive
set_option linter.unusedVariables false
theorem core_of (cd : Int) (S : Nat → Int × Option (Nat → Nat)) (m : Nat) (hm : m ≤ 300) (n : Int) (v : Value) (w : World)
    (h1 : Calls Try.prog 19 #[.int .i64 n, v] w (PlP S m cd w)) (h2 : ∀ w', New w w' → Calls Try.prog 20 #[.int .i64 n, v] w' (PlP S m cd w')) :
    Calls Try.prog 6 #[.int .i64 n, v] w fun e w' => e = .returned (.bool true) ∧ New w w' := by
  have g1 := Lib.hid h1
  have g2 := Lib.hid h2
  clear h1 h2
  go_enter Try.func6, Try.ntmps6
  go_wp2_with fail
  refine g1.out.mono ?_
  rintro e w1 ⟨⟨v1, rv1, rfl, ho1, hd1⟩, hn1⟩
  have ho1' := Lib.hid ho1
  have hd1' := Lib.hid hd1
  clear ho1 hd1
  go_wp2_with fail
  refine (g2.out _ hn1).mono ?_
  rintro e w2 ⟨⟨v3, rv2, rfl, ho2, hd2⟩, hn2⟩
  have ho2' := Lib.hid ho2
  have hd2' := Lib.hid hd2
  clear ho2 hd2
  go_wp2_with fail
  refine (sameReplies_eq S m hm v1 v3 rv1 rv2 _ _ w2 (own_new ho1'.out hn2) ho2'.out (fun j hj => (hd1'.out j hj).new hn2) hd2'.out).mono ?_
  rintro e w3 ⟨rfl, hn3⟩
  go_wp2
  go_ret
  exact ⟨by simp, (hn1.next hn2).next hn3⟩
theorem core (n : Int) (A : Option Addr) (m c : Nat) (K B P : Nat → Int) (R : Nat → Option Addr) (L C : Nat → Nat) (D : Nat → Nat → Nat) (w : World) (hJ : RdJ w A m K B P R L C D) :
    Calls Try.prog 6 #[.int .i64 n, .slice A m c] w fun e w' => e = .returned (.bool true) ∧ New w w' := by
  by_cases hb : n < 1 ∨ 512 < n
  · exact core_of 2 (fun _ => (0, none)) 0 (by omega) n _ w (Play_bad n _ _ w hb) (fun w' _ => Ref_bad n _ _ w' hb)
  · have hs : 1 ≤ n ∧ n ≤ 512 := by omega
    by_cases hm : 300 < m
    · exact core_of 1 (fun _ => (0, none)) 0 (by omega) n _ w (Play_long n A m c _ w hs hm hJ.1) (fun w' _ => Ref_long n A m c _ w' hs hm hJ.1)
    · obtain ⟨n, rfl⟩ : ∃ k : Nat, (k : Int) = n := ⟨n.toNat, by omega⟩
      exact core_of 0 _ m (by omega) n _ w (Play_ok n m c A K B P R L C D w (by omega) (by omega) (by omega) hJ) (fun w' hw => Ref_ok n m c A K B P R L C D w' (by omega) (by omega) (by omega) (hJ.new hw))
set_option maxRecDepth 100000 in
theorem walk {H : Type} (enc : TypeId × Value → H) (W : World) {base : Nat} {v0 : Value} {d0 : DataW H} {p0 : List MemPlace} (ok0 : Value.okWide Try.prog W .any base 3 v0) (h0 : DataW.Trod enc Try.prog W 0 (fun _ => true) true 3 v0 d0 p0) {v1 : Value} {d1 : DataW H} {p1 : List MemPlace} (ok1 : Value.okWide Try.prog W .any base 38 v1) (h1 : DataW.Trod enc Try.prog W 0 (fun _ => true) true 38 v1 d1 p1)
    (hsz : (DataW.weightsEach Try.prog (Try.f6.params.toList ++ Rows.drivePlaysSpec.plain.varTypes Try.prog) ([d0, d1] ++ [])).all (· ≤ reachBytes) = true) :
    Calls Try.prog 6 #[v0, v1] W fun e W' => e = .returned (.bool true) ∧ Below W.heap.size W W' := by
  obtain ⟨a0, rfl, rfl, rfl, w0⟩ := open_int Try.underlying3 ok0 h0
  obtain ⟨A, m, c, K, B, P, R, L, C, D, rfl, hJ⟩ := open_jobs ok1 h1
  exact core _ _ _ _ _ _ _ _ _ _ _ W hJ
end Go.Proofs.Ythjjchlibbheaaa.drivePlays
