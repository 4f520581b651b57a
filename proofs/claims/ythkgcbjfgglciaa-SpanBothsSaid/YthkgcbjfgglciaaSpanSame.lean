/-
  The law's own comparison of two lists of ranges; what both texts answer is the same.
-/
import Derived.Test.YthkgcbjfgglciaaSpanAll
import Derived.Test.YthkgcbjfgglciaaSpanOpen
namespace Go.Proofs.Ythkgcbjfgglciaa.spans
open Go.ChangeShapes Go.WideShapes Go.ChangeAt Go.RowKit Go.Proofs.Ythkgcbjfgglciaa.kit Go.Proofs.Ythkgcbjfgglciaa.span Go.Deep Go.Joins
set_option linter.unusedVariables false
set_option maxRecDepth 100000 in
theorem sameRanges_eq (L : Rs) (hn : L.length ≤ 2000) (v v' : Value) (b b' : Nat) (w : World) (h : w.ownsRow b 30 2 v L.length (encE L)) (h' : w.ownsRow b' 30 2 v' L.length (encE L)) :
    Calls Try.prog 23 #[v, v'] w fun e w' => e = .returned (.bool true) ∧ New w w' := by
  obtain ⟨A, c, rfl, hc1, hc2, hA, hcell⟩ := own_open h
  obtain ⟨A', c', rfl, hc1', hc2', hA', hcell'⟩ := own_open h'
  have hcl := Lib.hid hcell
  have hcl' := Lib.hid hcell'
  have hA1 := Lib.hid hA
  have hA1' := Lib.hid hA'
  obtain ⟨n, hnL⟩ : ∃ n, Hid (L.length = n) := ⟨_, (rfl : _ = _)⟩
  rw [hnL.out] at hn hc1 hc1' ⊢
  clear hcell hcell' hA hA' h h'
  go_enter Try.func23, Try.ntmps23
  go_wp2
  go_loopw [5] (fun k wr => ∃ i : Nat, k = .int .i64 i ∧ i ≤ n ∧ New w wr) (fun k _ => n - (intOf k).toNat)
  case atStart => exact ⟨0, rfl, by omega, New.refl w⟩
  case round =>
    obtain ⟨i, rfl, hi, hnw⟩ := hrel
    by_cases hlt : i < n
    · have hiL : i < L.length := by rw [hnL.out]; exact hlt
      obtain ⟨g, rfl, _, hg⟩ := hA1.out (by omega)
      obtain ⟨g', rfl, _, hg'⟩ := hA1'.out (by omega)
      obtain ⟨q0, q1⟩ := encE_at L i hiL
      generalize (L[i]).1 = x0 at q0
      generalize (L[i]).2 = x1 at q1
      rw [Nat.mul_comm] at q0 q1
      have c0 := (hnw.cell (p := ⟨g, i * 2, none⟩) hg).trans (hcl.out g rfl (i * 2) _ q0)
      have c1 := (hnw.cell (p := ⟨g, i * 2 + 1, none⟩) hg).trans (hcl.out g rfl (i * 2 + 1) _ q1)
      have d0 := (hnw.cell (p := ⟨g', i * 2, none⟩) hg').trans (hcl'.out g' rfl (i * 2) _ q0)
      have d1 := (hnw.cell (p := ⟨g', i * 2 + 1, none⟩) hg').trans (hcl'.out g' rfl (i * 2 + 1) _ q1)
      clear q0 q1 hiL
      have i0 : (0 : Int) ≤ (i : Int) := by omega
      have i1 : (i : Int) < (n : Int) := by omega
      go_wp2
      go_quiet (fail)
      go_wp2
      go_roundw
      case rel => exact ⟨i + 1, by go_num, by omega, hnw.drewN _⟩
      case measure => simp [intOf]; omega
    · have hin : i = n := by omega
      subst hin
      go_wp2
      go_ret
      exact ⟨rfl, hnw⟩
/-- a list in memory, with a code -/
def ListAns (L : Rs) (cd : Int) (w : World) (e : Ending) (w' : World) : Prop := ∃ v, e = .returned (.tuple #[v, .int .i64 cd]) ∧ w'.ownsRow w.heap.size 30 2 v L.length (encE L) ∧ New w w'
/-- the two answers, that of the program first -/
theorem SetAns.list {S : Int → Bool} {w w' : World} {e : Ending} (h : SetAns S w e w') : ∃ R : Rs, normR R ∧ (∀ x, S x = true ↔ inR R x) ∧ R.length ≤ 2000 ∧ ListAns (if R.length ≤ 200 then R else []) (if R.length ≤ 200 then 0 else 8) w e w' := by
  obtain ⟨⟨v, R, h1, h2, h3, h4, rfl⟩, hn⟩ := h
  refine ⟨R, h1, h2, h3, _, rfl, ?_, hn⟩
  split
  · exact h4
  · exact World.ownsRow_nil _ _ _ _
theorem SetAns.one {S : Int → Bool} {w w1 w2 w3 : World} {e e' : Ending} {R : Rs} (hn : normR R) (hS : ∀ x, S x = true ↔ inR R x) (h' : SetAns S w1 e w2) : ListAns (if R.length ≤ 200 then R else []) (if R.length ≤ 200 then 0 else 8) w1 e w2 := by
  obtain ⟨R', g1, g2, _, g4⟩ := h'.list
  have : R' = R := norm_one g1 hn fun x => by rw [← g2 x, ← hS x]
  rw [this] at g4
  exact g4
theorem nilAns {w w' : World} {e : Ending} (h : e = .returned (.tuple #[.slice none 0 0, .int .i64 4]) ∧ New w w') : ListAns [] 4 w e w' := ⟨_, h.1, World.ownsRow_nil _ _ _ _, h.2⟩
set_option maxRecDepth 100000 in
theorem open_range {H : Type} {enc : TypeId × Value → H} {W : World} {base : Nat} {v : Value} {d : DataW H} {p : List MemPlace} (ok : Value.okWide Try.prog W .any base 30 v)
    (h : DataW.Trod enc Try.prog W 0 (fun _ => true) true 30 v d p) : ∃ f t : Int, v = .agg #[.int .i64 f, .int .i64 t] := by
  obtain ⟨c0, c1, y0, y1, m, rfl, rfl, rfl, h0, h1⟩ := open_agg2 Try.underlying30 (by kernel_rfl) (by kernel_rfl) ok h
  obtain ⟨x0, e0, _, _⟩ := DataW.trod_int Try.underlying3 h0
  obtain ⟨x1, e1, _, _⟩ := DataW.trod_int Try.underlying3 h1
  simp [Value.cells] at e0 e1
  exact ⟨x0, x1, by rw [e0, e1]⟩
end Go.Proofs.Ythkgcbjfgglciaa.spans
