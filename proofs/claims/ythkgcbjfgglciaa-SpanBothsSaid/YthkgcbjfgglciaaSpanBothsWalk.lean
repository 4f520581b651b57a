/-
  The walk of the law SpanBoths.
-/
import Derived.Test.YthkgcbjfgglciaaRows
import Derived.Test.YthkgcbjfgglciaaSpanSame
namespace Go.Proofs.Ythkgcbjfgglciaa.spanBoths
open Go.ChangeShapes Go.WideShapes Go.ChangeAt Go.RowKit Go.Proofs.Ythkgcbjfgglciaa.kit Go.Proofs.Ythkgcbjfgglciaa.span Go.Proofs.Ythkgcbjfgglciaa.spans
set_option linter.unusedVariables false
set_option maxRecDepth 100000 in
theorem core_of (A B : Option Addr) (n c m d : Nat) (w : World) (Q : Rs → Int → Prop) (hQ : ∀ L cd, Q L cd → L.length ≤ 2000)
    (h1 : ∀ w1, New w w1 → Calls Try.prog 26 #[.slice A n c, .slice B m d] w1 fun e w2 => ∃ L cd, Q L cd ∧ ListAns L cd w1 e w2)
    (h2 : ∀ L cd, Q L cd → ∀ w1, New w w1 → Calls Try.prog 27 #[.slice A n c, .slice B m d] w1 (ListAns L cd w1)) :
    Calls Try.prog 9 #[.slice A n c, .slice B m d] w fun e w' => e = .returned (.bool true) ∧ New w w' := by
  have g1 := Lib.hid h1
  have g2 := Lib.hid h2
  have gQ := Lib.hid hQ
  clear h1 h2 hQ
  go_enter Try.func9, Try.ntmps9
  go_wp2_with fail
  refine (g1.out _ (New.refl w)).mono ?_
  rintro e w1 ⟨L, cd, hq, v1, rfl, ho1, hn1⟩
  have hN1 := hn1
  have ho1' := Lib.hid ho1
  have hq' := Lib.hid hq
  clear ho1 hq
  go_wp2_with fail
  refine (g2.out L cd hq'.out _ hN1).mono ?_
  rintro e w2 ⟨v2, rfl, ho2, hn2⟩
  have ho2' := Lib.hid ho2
  clear ho2
  go_wp2_with fail
  refine (sameRanges_eq L (gQ.out L cd hq'.out) v1 v2 _ _ w2 (own_new ho1'.out hn2) ho2'.out).mono ?_
  rintro e w3 ⟨rfl, hn3⟩
  go_wp2
  go_ret
  exact ⟨by simp, (hN1.next hn2).next hn3⟩
theorem core (A B : Option Addr) (n c m d : Nat) (F T G U : Nat → Int) (w : World) (h : Rd w A n F T) (hB : Rd w B m G U) : Calls Try.prog 9 #[.slice A n c, .slice B m d] w fun e w' => e = .returned (.bool true) ∧ New w w' := by
  by_cases hy : mayB n F T = true ∧ mayB m G U = true
  · refine core_of A B n c m d w (fun L cd => ∃ R : Rs, R.length ≤ 2000 ∧ normR R ∧ (∀ x, (hasB n F T x && hasB m G U x) = true ↔ inR R x) ∧ L = (if R.length ≤ 200 then R else []) ∧ cd = (if R.length ≤ 200 then 0 else 8)) ?_ ?_ ?_
    · rintro L cd ⟨R, h1, _, _, rfl, _⟩
      split
      · exact h1
      · simp
    · intro w1 hn1
      refine (Both_ok A B n c m d F T G U w1 (h.new hn1) (hB.new hn1) hy).mono fun e w2 ha => ?_
      obtain ⟨R, h1, h2, h3, h4⟩ := ha.list
      exact ⟨_, _, ⟨R, h3, h1, h2, rfl, rfl⟩, h4⟩
    · rintro L cd ⟨R, h1, h2, h3, rfl, rfl⟩ w1 hn1
      exact (SpanBoth_ok A B n c m d F T G U w1 (h.new hn1) (hB.new hn1) hy).mono fun e w2 ha => SetAns.one (w := w) (w3 := w) (e' := e) h2 h3 ha
  · refine core_of A B n c m d w (fun L cd => L = [] ∧ cd = 4) ?_ ?_ ?_
    · rintro L cd ⟨rfl, _⟩; simp
    · intro w1 hn1
      exact (Both_bad A B n c m d F T G U w1 (h.new hn1) (hB.new hn1) hy).mono fun e w2 ha => ⟨[], 4, ⟨rfl, rfl⟩, nilAns ha⟩
    · rintro L cd ⟨rfl, rfl⟩ w1 hn1
      exact (SpanBoth_bad A B n c m d F T G U w1 (h.new hn1) (hB.new hn1) hy).mono fun e w2 ha => nilAns ha
set_option maxRecDepth 100000 in
theorem walk {H : Type} (enc : TypeId × Value → H) (W : World) {base : Nat} {v0 : Value} {d0 : DataW H} {p0 : List MemPlace} (ok0 : Value.okWide Try.prog W .any base 22 v0) (h0 : DataW.Trod enc Try.prog W 0 (fun _ => true) true 22 v0 d0 p0) {v1 : Value} {d1 : DataW H} {p1 : List MemPlace} (ok1 : Value.okWide Try.prog W .any base 22 v1) (h1 : DataW.Trod enc Try.prog W 0 (fun _ => true) true 22 v1 d1 p1)
    (hsz : (DataW.weightsEach Try.prog (Try.f9.params.toList ++ Rows.spanBothsSpec.plain.varTypes Try.prog) ([d0, d1] ++ [])).all (· ≤ reachBytes) = true) :
    Calls Try.prog 9 #[v0, v1] W fun e W' => e = .returned (.bool true) ∧ Below W.heap.size W W' := by
  obtain ⟨A, n, c, F, T, rfl, h, _⟩ := open_ranges ok0 h0
  obtain ⟨B, m, d, G, U, rfl, hB, _⟩ := open_ranges ok1 h1
  exact core _ _ _ _ _ _ _ _ _ _ W h hB
end Go.Proofs.Ythkgcbjfgglciaa.spanBoths
