/-
  The walk of the law FletMores.
-/
import Derived.Test.YtpknpmmcploacaaRows
import Derived.Test.YtpknpmmcploacaaFletRef
import Derived.Test.YtpknpmmcploacaaFletOpen
import Derived.Test.YtpknpmmcploacaaBulk
namespace Go.Proofs.Ytpknpmmcploacaa.fletMores
open Go.ChangeShapes Go.WideShapes Go.ChangeAt Go.RowKit Go.Proofs.Ytpknpmmcploacaa.kit Go.Proofs.Ytpknpmmcploacaa.flet
set_option linter.unusedVariables false

theorem core_ok (a b c d : Int) (A : Option Addr) (n cap : Nat) (B : Nat → Nat) (w : World) (h : RdB w A n B) (hcap : n ≤ cap) (h4 : n % 4 = 0) (hbig : n ≤ 1048576) :
    Calls Try.prog 8 #[four a b c d, .slice A n cap] w fun e w' => e = .returned (.bool true) ∧ New w w' := by
  go_enter Try.func8, Try.ntmps8
  go_wp2_with fail
  refine (More_ok a b c d A n cap B _ (h.new ((New.refl _).alloc _)) hcap h4).mono ?_
  obtain ⟨⟨s1, s2, s3, s4⟩, hS⟩ : ∃ S, Hid (S = sums B (n / 4) (a, b, c, d)) := ⟨_, (rfl : _ = _)⟩
  rw [← hS.out]
  rintro e w1 ⟨rfl, hn1⟩
  have hb0 := (Blk.fresh w 38 #[.int .i64 a, .int .i64 b, .int .i64 c, .int .i64 d]).new hn1
  have c0 := hb0.cell 0
  have c1 := hb0.cell 1
  have c2 := hb0.cell 2
  have c3 := hb0.cell 3
  simp at c0 c1 c2 c3
  have hN1 : New w w1 := hn1.of_alloc
  have hlt0 : w.heap.size < w1.heap.size := hb0.lt
  go_wp2_with fail
  refine (SumMore_ok a b c d A n cap B _ ((h.new hN1).new ((New.refl _).alloc _)) h4 hbig).mono ?_
  rw [← hS.out]
  rintro e w2 ⟨rfl, hn2⟩
  have hb1 := (Blk.fresh w1 38 #[.int .i64 s1, .int .i64 s2, .int .i64 s3, .int .i64 s4]).new hn2
  have d0 := hb1.cell 0
  have d1 := hb1.cell 1
  have d2 := hb1.cell 2
  have d3 := hb1.cell 3
  simp at d0 d1 d2 d3
  have hlt1 : w1.heap.size < w2.heap.size := hb1.lt
  go_wp2
  go_ret
  exact ⟨by simp, (hN1.next hn2.of_alloc).alloc _⟩
theorem core_bad (a b c d : Int) (A : Option Addr) (n cap : Nat) (w : World) (hm : n ≤ maxLen) (h4 : n % 4 ≠ 0) :
    Calls Try.prog 8 #[four a b c d, .slice A n cap] w fun e w' => e = .returned (.bool true) ∧ New w w' := by
  go_enter Try.func8, Try.ntmps8
  go_wp2_with fail
  refine (More_bad a b c d A n cap _ hm h4).mono ?_
  rintro e w1 ⟨rfl, hn1⟩
  have hb0 := (Blk.fresh w 38 #[.int .i64 a, .int .i64 b, .int .i64 c, .int .i64 d]).new hn1
  have c0 := hb0.cell 0
  have c1 := hb0.cell 1
  have c2 := hb0.cell 2
  have c3 := hb0.cell 3
  simp at c0 c1 c2 c3
  have hN1 : New w w1 := hn1.of_alloc
  have hlt0 : w.heap.size < w1.heap.size := hb0.lt
  go_wp2_with fail
  refine (SumMore_bad a b c d A n cap _ hm h4).mono ?_
  rintro e w2 ⟨rfl, hn2⟩
  have hb1 := (Blk.fresh w1 38 #[.int .i64 0, .int .i64 0, .int .i64 0, .int .i64 0]).new hn2
  have d0 := hb1.cell 0
  have d1 := hb1.cell 1
  have d2 := hb1.cell 2
  have d3 := hb1.cell 3
  simp at d0 d1 d2 d3
  have hlt1 : w1.heap.size < w2.heap.size := hb1.lt
  go_wp2
  go_ret
  exact ⟨by simp, (hN1.next hn2.of_alloc).alloc _⟩
set_option maxRecDepth 100000 in
theorem walk {H : Type} (enc : TypeId × Value → H) (W : World) {base : Nat} {v0 : Value} {d0 : DataW H} {p0 : List MemPlace} (ok0 : Value.okWide Try.prog W .any base 38 v0) (h0 : DataW.Trod enc Try.prog W 0 (fun _ => true) true 38 v0 d0 p0) {v1 : Value} {d1 : DataW H} {p1 : List MemPlace} (ok1 : Value.okWide Try.prog W .any base 42 v1) (h1 : DataW.Trod enc Try.prog W 0 (fun _ => true) true 42 v1 d1 p1) (hk : Rows.uptoSmall H ([d0, d1] ++ []) = true)
    (hsz : (DataW.weightsEach Try.prog (Try.f8.params.toList ++ Rows.fletMoresSpec.plain.varTypes Try.prog) ([d0, d1] ++ [])).all (· ≤ reachBytes) = true) :
    Calls Try.prog 8 #[v0, v1] W fun e W' => e = .returned (.bool true) ∧ Below W.heap.size W W' := by
  obtain ⟨a, b, c, e, rfl, _⟩ := open_sum ok0 h0
  obtain ⟨A, n, cap, B, rfl, hB, hcap, _, hd⟩ := open_bytes ok1 h1
  by_cases h4 : n % 4 = 0
  · refine core_ok a b c e A n cap B W hB hcap h4 ?_
    rcases hd with h0 | ⟨elems, spare, rfl, hl⟩
    · omega
    · have hbd := bulks.bound hk
      have h1 := bulks.part_le (d := DataW.slice elems spare) (l := [d0, DataW.slice elems spare] ++ []) (by simp)
      have h2 := bulks.slice_le elems spare
      omega
  · exact core_bad a b c e A n cap W hB.1 h4
end Go.Proofs.Ytpknpmmcploacaa.fletMores
