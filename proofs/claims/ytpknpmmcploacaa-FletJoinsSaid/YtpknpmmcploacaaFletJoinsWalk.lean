/-
  The walk of the law FletJoins.
-/
import Derived.Test.YtpknpmmcploacaaRows
import Derived.Test.YtpknpmmcploacaaFletJoin
import Derived.Test.YtpknpmmcploacaaFletOpen
namespace Go.Proofs.Ytpknpmmcploacaa.fletJoins
open Go.ChangeShapes Go.WideShapes Go.ChangeAt Go.RowKit Go.Proofs.Ytpknpmmcploacaa.kit Go.Proofs.Ytpknpmmcploacaa.flet
set_option linter.unusedVariables false

theorem core_ok (a b c d a' b' c' d' n s1 s2 s3 s4 r : Int) (w : World)
    (hJ : ∀ w, Calls Try.prog 22 #[four a b c d, four a' b' c' d', .int .i64 n] w fun e w' => e = .returned (.tuple #[four s1 s2 s3 s4, .int .i64 r]) ∧ New w w')
    (hS : ∀ w, Calls Try.prog 23 #[four a b c d, four a' b' c' d', .int .i64 n] w fun e w' => e = .returned (.tuple #[four s1 s2 s3 s4, .int .i64 r]) ∧ New w w') :
    Calls Try.prog 7 #[four a b c d, four a' b' c' d', .int .i64 n] w fun e w' => e = .returned (.bool true) ∧ New w w' := by
  have hJ1 := Lib.hid hJ
  have hS1 := Lib.hid hS
  clear hJ hS
  go_enter Try.func7, Try.ntmps7
  go_wp2_with fail
  refine (hJ1.out _).mono ?_
  rintro e w1 ⟨rfl, hn1⟩
  have hb0 := ((Blk.fresh w 38 #[.int .i64 a, .int .i64 b, .int .i64 c, .int .i64 d]).alloc (.cells #[.int .i64 a', .int .i64 b', .int .i64 c', .int .i64 d'] 38)).new hn1
  have hb1 : Blk w1 (w.heap.size + 1) 38 #[.int .i64 a', .int .i64 b', .int .i64 c', .int .i64 d'] := (Blk.top (w.alloc (.cells #[.int .i64 a, .int .i64 b, .int .i64 c, .int .i64 d] 38)) _ _ _ (by simp)).new hn1
  have c0 := hb0.cell 0
  have c1 := hb0.cell 1
  have c2 := hb0.cell 2
  have c3 := hb0.cell 3
  have c4 := hb1.cell 0
  have c5 := hb1.cell 1
  have c6 := hb1.cell 2
  have c7 := hb1.cell 3
  simp at c0 c1 c2 c3 c4 c5 c6 c7
  have hN1 : New w w1 := hn1.of_alloc.of_alloc
  have hlt0 : w.heap.size < w1.heap.size := hb0.lt
  have hlt1 : w.heap.size + 1 < w1.heap.size := hb1.lt
  go_wp2_with fail
  refine (hS1.out _).mono ?_
  rintro e w2 ⟨rfl, hn2⟩
  have hb2 := (Blk.fresh w1 38 #[.int .i64 s1, .int .i64 s2, .int .i64 s3, .int .i64 s4]).new hn2
  have d0 := hb2.cell 0
  have d1 := hb2.cell 1
  have d2 := hb2.cell 2
  have d3 := hb2.cell 3
  simp at d0 d1 d2 d3
  have hlt2 : w1.heap.size < w2.heap.size := hb2.lt
  go_wp2
  go_ret
  exact ⟨by simp, (hN1.next hn2.of_alloc).alloc _⟩
set_option maxRecDepth 100000 in
theorem walk {H : Type} (enc : TypeId × Value → H) (W : World) {base : Nat} {v0 : Value} {d0 : DataW H} {p0 : List MemPlace} (ok0 : Value.okWide Try.prog W .any base 38 v0) (h0 : DataW.Trod enc Try.prog W 0 (fun _ => true) true 38 v0 d0 p0) {v1 : Value} {d1 : DataW H} {p1 : List MemPlace} (ok1 : Value.okWide Try.prog W .any base 38 v1) (h1 : DataW.Trod enc Try.prog W 0 (fun _ => true) true 38 v1 d1 p1) {v2 : Value} {d2 : DataW H} {p2 : List MemPlace} (ok2 : Value.okWide Try.prog W .any base 3 v2) (h2 : DataW.Trod enc Try.prog W 0 (fun _ => true) true 3 v2 d2 p2)
    (hsz : (DataW.weightsEach Try.prog (Try.f7.params.toList ++ Rows.fletJoinsSpec.plain.varTypes Try.prog) ([d0, d1, d2] ++ [])).all (· ≤ reachBytes) = true) :
    Calls Try.prog 7 #[v0, v1, v2] W fun e W' => e = .returned (.bool true) ∧ Below W.heap.size W W' := by
  obtain ⟨a, b, c, d, rfl, _⟩ := open_sum ok0 h0
  obtain ⟨a', b', c', d', rfl, _⟩ := open_sum ok1 h1
  obtain ⟨a0, rfl, rfl, rfl, w0⟩ := open_int Try.underlying3 ok2 h2
  by_cases h : 0 ≤ a0 ∧ a0 ≤ 1048576
  · obtain ⟨n, rfl⟩ : ∃ n : Nat, (n : Int) = a0 := ⟨a0.toNat, by omega⟩
    have hn : n ≤ 1048576 := by omega
    exact core_ok a b c d a' b' c' d' n _ _ _ _ _ W (fun w => Join_ok a b c d a' b' c' d' n w hn) (fun w => SumJoin_ok a b c d a' b' c' d' n w hn)
  · have hb : a0 < 0 ∨ 1048576 < a0 := by omega
    exact core_ok a b c d a' b' c' d' a0 _ _ _ _ _ W (fun w => Join_bad a b c d a' b' c' d' a0 w hb) (fun w => SumJoin_bad a b c d a' b' c' d' a0 w hb)
end Go.Proofs.Ytpknpmmcploacaa.fletJoins
