/-
  The walk of the law StripeGathers.
-/
import Derived.Test.YtjmjnodaohbpfaaRows
import Derived.Test.YtjmjnodaohbpfaaGatherRef
import Derived.Test.YtjmjnodaohbpfaaPieceOpen
import Derived.Test.YtjmjnodaohbpfaaFletOpen
import Derived.Test.YtjmjnodaohbpfaaLists
namespace Go.Proofs.Ytjmjnodaohbpfaa.stripeGathers
open Go.ChangeShapes Go.WideShapes Go.ChangeAt Go.RowKit Go.Proofs.Ytjmjnodaohbpfaa.kit Go.Proofs.Ytjmjnodaohbpfaa.stripe Go.Proofs.Ytjmjnodaohbpfaa.geom Go.Proofs.Ytjmjnodaohbpfaa.flet Go.Proofs.Ytjmjnodaohbpfaa.lists
set_option linter.unusedVariables false
set_option maxRecDepth 100000
theorem core_of (d p a n s0 s1 s2 s3 : Int) (A : Option Addr) (m c : Nat) (k : Nat) (X l : List Nat) (cd : Int) (w : World)
    (h1 : ∀ w', New w w' → Calls Try.prog 18 #[.int .i64 d, .int .i64 p, .int .i64 a, .int .i64 n, .slice A m c, four s0 s1 s2 s3] w' (GaP k X l cd w'))
    (h2 : ∀ w', New w w' → Calls Try.prog 19 #[.int .i64 d, .int .i64 p, .int .i64 a, .int .i64 n, .slice A m c, four s0 s1 s2 s3] w' (GaP k X l cd w')) :
    Calls Try.prog 7 #[.int .i64 d, .int .i64 p, .int .i64 a, .int .i64 n, .slice A m c, four s0 s1 s2 s3] w fun e w' => e = .returned (.bool true) ∧ New w w' := by
  have g1 := Lib.hid h1
  have g2 := Lib.hid h2
  clear h1 h2
  go_enter Try.func7, Try.ntmps7
  go_wp2_with fail
  refine (g1.out _ ((New.refl w).alloc _)).mono ?_
  rintro e w1 ⟨⟨A1, c1, B1, d1, rfl, r1, t1⟩, hn1⟩
  have hS1 := (Blk.fresh w 38 #[.int .i64 s0, .int .i64 s1, .int .i64 s2, .int .i64 s3]).new hn1
  have u0 := hS1.cell 0
  have u1 := hS1.cell 1
  have u2 := hS1.cell 2
  have u3 := hS1.cell 3
  simp at u0 u1 u2 u3
  have hn1 := New.of_alloc hn1
  have r1H := Lib.hid r1
  have t1H := Lib.hid t1
  clear r1 t1
  go_wp2_with fail
  refine (g2.out _ hn1).mono ?_
  rintro e w2 ⟨⟨A2, c2, B2, d2, rfl, r2, t2⟩, hn2⟩
  have r3 := Lib.hid (r1H.out.new hn2)
  have t3 := Lib.hid (t1H.out.new hn2)
  have r2H := Lib.hid r2
  have t2H := Lib.hid t2
  have hN2 := hn1.next hn2
  clear r2 t2
  have hsb := Lib.hid (fun (w' : World) (hn : New w2 w') => sameBytes_eq A1 A2 k c1 c2 _ _ w' (r3.out.new hn) (r2H.out.new hn) (fun i hi => rfl))
  have hsi := Lib.hid (fun (w' : World) (hn : New w2 w') => mat.sameInts_eq B1 B2 l.length d1 d2 _ _ w' (t3.out.new hn) (t2H.out.new hn) (fun i hi => rfl))
  go_wp2_with (first
    | (go_at_call 20; refine (hsb.out _ (New.refl _)).mono ?_; rintro e w3 ⟨rfl, hn3⟩)
    | (go_at_call 21; refine (hsi.out _ hn3).mono ?_; rintro e w4 ⟨rfl, hn4⟩))
  go_ret
  exact ⟨by simp, (hN2.next hn3).next hn4⟩
theorem gas_gap (num pa ct wd n : Nat) (Ls : Nat → Bool) (L : Nat → Nat) (D : Nat → Nat → Nat) (s : Int × Int × Int × Int) : ∃ k X l cd, ∀ w e w', GaS num pa ct wd n Ls L D s w e w' → GaP k X l cd w e w' := by
  unfold GaS
  by_cases h1 : badL Ls L (fun c => 128 * cntC pa ct wd c) num = true
  · simp only [h1, if_true]
    exact ⟨_, _, _, _, fun _ _ _ h => h⟩
  · simp only [h1]
    by_cases h2 : pa < (lostL Ls num).length
    · simp only [h2, if_true]
      exact ⟨_, _, _, _, fun _ _ _ h => h⟩
    · simp only [h2]
      cases fndS num pa ct wd Ls L D s with
      | none => exact ⟨_, _, _, _, fun _ _ _ h => h⟩
      | some b => exact ⟨_, _, _, _, fun _ _ _ h => h⟩
theorem core (d p a n s0 s1 s2 s3 : Int) (A : Option Addr) (m c : Nat) (Ls : Nat → Bool) (R : Nat → Option Addr) (L C : Nat → Nat) (D : Nat → Nat → Nat) (w : World) (hP : RdP w A m Ls R L C D) :
    Calls Try.prog 7 #[.int .i64 d, .int .i64 p, .int .i64 a, .int .i64 n, .slice A m c, four s0 s1 s2 s3] w fun e w' => e = .returned (.bool true) ∧ New w w' := by
  by_cases hl : 1 ≤ n ∧ n ≤ 4096
  · obtain ⟨sz, rfl⟩ : ∃ k : Nat, n = (k : Int) := ⟨n.toNat, by omega⟩
    have hs : 1 ≤ sz ∧ sz ≤ 4096 := by omega
    by_cases hg : mayP d p ∧ cntP ((sz + 127) / 128 : Nat) ∧ adrP a
    · obtain ⟨g1, g2, g3⟩ := hg
      unfold mayP at g1
      unfold cntP at g2
      unfold adrP at g3
      obtain ⟨dr, rfl⟩ : ∃ k : Nat, d = (k : Int) := ⟨d.toNat, by omega⟩
      obtain ⟨pa, rfl⟩ : ∃ k : Nat, p = (k : Int) := ⟨p.toNat, by omega⟩
      obtain ⟨ad, rfl⟩ : ∃ k : Nat, a = (k : Int) := ⟨a.toNat, by omega⟩
      obtain ⟨wd, hwd⟩ : ∃ wd, dr = pa + wd := ⟨dr - pa, by omega⟩
      by_cases hm : m = numP dr pa ((sz + 127) / 128) wd
      · obtain ⟨k, X, l, cd, hk⟩ := gas_gap (numP dr pa ((sz + 127) / 128) wd) pa ((sz + 127) / 128) wd sz Ls L D (s0, s1, s2, s3)
        subst hm
        refine core_of dr pa ad sz s0 s1 s2 s3 A _ c k X l cd w (fun w' hn => (Gather_ok dr pa ad wd _ sz _ 0 c s0 s1 s2 s3 A Ls R L C D w' (by omega) (by omega) (by omega) (by omega) hwd (by omega) (by omega) hs rfl rfl (hP.new hn)).mono fun e w' h => hk _ _ _ h) fun w' hn => ?_
        exact (RefGather_ok dr pa ad wd _ sz _ 0 c s0 s1 s2 s3 A Ls R L C D w' (by omega) (by omega) (by omega) (by omega) hwd (by omega) (by omega) hs rfl rfl (hP.new hn)).mono fun e w' h => hk _ _ _ h
      · exact core_of dr pa ad sz s0 s1 s2 s3 A m c 0 [] [] 4 w (fun w' hn => Gather_form dr pa ad wd _ sz _ m c s0 s1 s2 s3 A w' (by omega) (by omega) (by omega) (by omega) hwd (by omega) (by omega) hs rfl rfl hm) fun w' hn =>
          RefGather_form dr pa ad wd _ sz _ m c s0 s1 s2 s3 A w' (by omega) (by omega) (by omega) (by omega) hwd (by omega) (by omega) hs rfl rfl hm
    · exact core_of d p a sz s0 s1 s2 s3 A m c 0 [] [] 2 w (fun w' hn => Gather_bad d p a sz s0 s1 s2 s3 2 A m c w' (by decide) (fun w' => shaped_geom d p a sz w' hs hg)) fun w' hn => RefGather_geom d p a s0 s1 s2 s3 sz A m c w' hs hg
  · exact core_of d p a n s0 s1 s2 s3 A m c 0 [] [] 1 w (fun w' hn => Gather_bad d p a n s0 s1 s2 s3 1 A m c w' (by decide) (fun w' => shaped_lenZ d p a n w' (by omega))) fun w' hn => RefGather_len d p a n s0 s1 s2 s3 A m c w' (by omega)
set_option maxRecDepth 100000 in
theorem walk {H : Type} (enc : TypeId × Value → H) (W : World) {base : Nat} {v0 : Value} {d0 : DataW H} {p0 : List MemPlace} (ok0 : Value.okWide Try.prog W .any base 3 v0) (h0 : DataW.Trod enc Try.prog W 0 (fun _ => true) true 3 v0 d0 p0) {v1 : Value} {d1 : DataW H} {p1 : List MemPlace} (ok1 : Value.okWide Try.prog W .any base 3 v1) (h1 : DataW.Trod enc Try.prog W 0 (fun _ => true) true 3 v1 d1 p1) {v2 : Value} {d2 : DataW H} {p2 : List MemPlace} (ok2 : Value.okWide Try.prog W .any base 3 v2) (h2 : DataW.Trod enc Try.prog W 0 (fun _ => true) true 3 v2 d2 p2) {v3 : Value} {d3 : DataW H} {p3 : List MemPlace} (ok3 : Value.okWide Try.prog W .any base 3 v3) (h3 : DataW.Trod enc Try.prog W 0 (fun _ => true) true 3 v3 d3 p3) {v4 : Value} {d4 : DataW H} {p4 : List MemPlace} (ok4 : Value.okWide Try.prog W .any base 36 v4) (h4 : DataW.Trod enc Try.prog W 0 (fun _ => true) true 36 v4 d4 p4) {v5 : Value} {d5 : DataW H} {p5 : List MemPlace} (ok5 : Value.okWide Try.prog W .any base 38 v5) (h5 : DataW.Trod enc Try.prog W 0 (fun _ => true) true 38 v5 d5 p5)
    (hsz : (DataW.weightsEach Try.prog (Try.f7.params.toList ++ Rows.stripeGathersSpec.plain.varTypes Try.prog) ([d0, d1, d2, d3, d4, d5] ++ [])).all (· ≤ reachBytes) = true) :
    Calls Try.prog 7 #[v0, v1, v2, v3, v4, v5] W fun e W' => e = .returned (.bool true) ∧ Below W.heap.size W W' := by
  obtain ⟨a0, rfl, rfl, rfl, w0⟩ := open_int Try.underlying3 ok0 h0
  obtain ⟨a1, rfl, rfl, rfl, w1⟩ := open_int Try.underlying3 ok1 h1
  obtain ⟨a2, rfl, rfl, rfl, w2⟩ := open_int Try.underlying3 ok2 h2
  obtain ⟨a3, rfl, rfl, rfl, w3⟩ := open_int Try.underlying3 ok3 h3
  obtain ⟨A, n, c, Ls, R, L, C, D, rfl, hP⟩ := open_pieces ok4 h4
  obtain ⟨s0, s1, s2, s3, rfl, _⟩ := open_sum ok5 h5
  exact core _ _ _ _ _ _ _ _ _ _ _ Ls R L C D W hP
end Go.Proofs.Ytjmjnodaohbpfaa.stripeGathers
