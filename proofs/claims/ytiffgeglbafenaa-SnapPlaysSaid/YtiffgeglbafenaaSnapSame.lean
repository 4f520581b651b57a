/-
  Both plays: comparisons, the argument, its copy.
-/
import Derived.Test.YtiffgeglbafenaaSnapRef
import Derived.Test.YtiffgeglbafenaaOpen
import Derived.Deep.Slices
import Derived.SizedLaws
namespace Go.Proofs.Ytiffgeglbafenaa.snap
open Go.ChangeShapes Go.WideShapes Go.ChangeAt Go.RowKit Go.Proofs.Ytiffgeglbafenaa.kit Go.Joins Go.Deep
set_option linter.unusedVariables false
theorem own_rd {w : World} {base : Nat} {v : Value} {l : List Nat} (h : OwnI w base v l) : ∃ A c, v = .slice A l.length c ∧ RdI .i64 w A l.length (fun i => (l.getD i 0 : Nat)) := by
  obtain ⟨A, c, rfl, h1, h2, h3, h4⟩ := own_open h
  refine ⟨A, c, rfl, by omega, fun h0 => ?_⟩
  obtain ⟨g, rfl, _, hg⟩ := h3 h0
  refine ⟨g, 0, rfl, hg, fun i hi => ?_⟩
  have := h4 g rfl i (.int .i64 (l.getD i 0 : Nat)) (by simp [intL, hi])
  simpa using this
theorem sameInts_eq (A B : Option Addr) (n c d : Nat) (Y : Nat → Int) (w : World) (hY : RdI .i64 w A n Y) (hZ : RdI .i64 w B n Y) :
    Calls Try.prog 10 #[.slice A n c, .slice B n d] w fun e w' => e = .returned (.bool true) ∧ New w w' := by
  have hm := hY.1
  unfold maxLen at hm
  go_enter Try.func10, Try.ntmps10
  go_wp2
  go_loopw [5] (fun k wr => ∃ i : Nat, k = .int .i64 i ∧ i ≤ n ∧ New w wr) (fun k _ => n - (intOf k).toNat)
  case atStart => exact ⟨0, rfl, by omega, New.refl w⟩
  case round =>
    obtain ⟨i, rfl, hi, hnw⟩ := hrel
    by_cases hlt : i < n
    · obtain ⟨b, off, rfl, hb, hcs⟩ := hY.2 (by omega)
      obtain ⟨b', off', rfl, hb', hcs'⟩ := hZ.2 (by omega)
      have c0 := (hnw.cell hb).trans (hcs i hlt)
      have c1 := (hnw.cell hb').trans (hcs' i hlt)
      clear hcs hcs'
      go_wp2
      go_quiet (fail)
      go_wp2
      go_roundw
      case rel => exact ⟨i + 1, by go_num, by omega, hnw.drewN _⟩
      case measure => simp [intOf]; omega
    · have hin : i = n := by omega
      subst hin
      go_wp2
      go_ret
      exact ⟨rfl, hnw⟩
theorem infoMove : (Try.prog.info? 54).map (fun i => (i.zero, i.size, i.bytes)) = some (some (.agg #[.int .i64 0, .int .i64 0]), 2, 16) := by kernel_rfl
/-- a copy of moves -/
theorem copy_moves (A : Option Addr) (m c : Nat) (K V : Nat → Int) (w : World) (ty : TypeId) (h : RdV w A m K V) (hA : A = none → m = 0 ∧ c = 0) (hm : m * 16 ≤ 140737488355328) :
    ∃ A1 c1 w1, (Builtin.append_ #[29, 29] ty #[.slice none 0 0, .slice A m c]).run Try.prog w = .ok (.slice A1 m c1) w1 ∧ RdV w1 A1 m K V ∧ New w w1 := by
  obtain ⟨i0, hi0, hz0, hz1, hz2⟩ := info_parts infoMove
  cases A with
  | none =>
    obtain ⟨rfl, rfl⟩ := hA rfl
    exact ⟨none, 0, w, run_append_owned_none w w.heap.size 29 ty 54 i0 2 Try.underlying29 hi0 _ 0 [] (World.ownsRow_nil _ _ _ _), h, New.refl _⟩
  | some a =>
    obtain ⟨v', w', hr, ho, hg, _⟩ := run_append_own w w.heap.size 29 ty 54 i0 _ 2 16 Try.underlying29 hi0 hz0 hz1 hz2 rfl (by decide) (.slice none 0 0) 0 [] (World.ownsRow_nil _ _ _ _) a m c (pairL (fun i => .int .i64 (K i)) (fun i => .int .i64 (V i)) m) (by rw [pairL_len]) (fun j u hj => by
      have hjm : j < m * 2 := by
        have := (List.getElem?_eq_some_iff.1 hj).1
        rwa [pairL_len] at this
      obtain ⟨b, off, e, hb, hc⟩ := h.2 (by omega)
      cases e
      rw [add_cell]
      obtain ⟨p0, p1⟩ := pairL_at (fun i => .int .i64 (K i)) (fun i => .int .i64 (V i)) m (j / 2) (by omega)
      obtain ⟨q0, q1⟩ := hc (j / 2) (by omega)
      rcases Nat.mod_two_eq_zero_or_one j with h2 | h2
      · rw [show j / 2 * 2 = j by omega] at p0 q0
        rw [p0] at hj
        cases hj
        exact q0
      · rw [show j / 2 * 2 + 1 = j by omega] at p1
        rw [Nat.add_assoc, show j / 2 * 2 + 1 = j by omega] at q1
        rw [p1] at hj
        cases hj
        exact q1) (fun u hu => by
      obtain ⟨i, _, hi⟩ := List.mem_flatMap.1 hu
      simp at hi
      rcases hi with rfl | rfl <;> simp [Value.oneCell']) (by unfold maxLen; omega) (by omega) (Nat.le_refl _)
    rw [Nat.zero_add, List.nil_append] at ho
    obtain ⟨A1, c1, rfl, _, _, h3, h4⟩ := own_open ho
    refine ⟨A1, c1, w', hr, ⟨h.1, fun h0 => ?_⟩, New.grown (New.refl w) hg fun g hg => by cases hg⟩
    obtain ⟨g, rfl, _, hg⟩ := h3 h0
    refine ⟨g, 0, rfl, hg, fun i hi => ?_⟩
    obtain ⟨p0, p1⟩ := pairL_at (fun i => .int .i64 (K i)) (fun i => .int .i64 (V i)) m i hi
    have q0 := h4 g rfl _ _ p0
    have q1 := h4 g rfl _ _ p1
    exact ⟨by simpa using q0, by simpa using q1⟩
theorem wpList_append_run {P : Program} {ops : Array Oper} {rest : List Oper} {o : Oper} {a : Act} {Q : Exit → Act → World → Prop} {w w' : World} {v : Value} (hgd : o.guard = none) (s x : Operand) (t : TypeId)
    (ho : o.op = .call { callee := .builtin .append, args := #[s, x], argTypes := #[t, t] }) (sv xv : Value) (hs : a.eval s = sv) (hx : a.eval x = xv) (hr : (Builtin.append_ #[t, t] o.type #[sv, xv]).run P w = .ok v w')
    (h : wpList P ops Q rest (a.put o.dst v) w') : wpList P ops Q (o :: rest) a w :=
  wpList_plain hgd fun K hK => by
    unfold Oper.wp execOp
    simp only [ho, resolve, invoke, builtin, Sem.run_bind, Sem.run_pure, Result.andThen_ok, List.map_toArray, List.map_cons, List.map_nil, hs, hx, hr]
    exact hK _ _ h
theorem cellsMove : Try.prog.cellsOf 54 = 2 := by kernel_rfl
theorem list2 (l : List Value) (h : l.length = 2) : ∃ a0 a1, l = [a0, a1] := by
  match l, h with
  | [a0, a1], _ => exact ⟨_, _, rfl⟩
theorem i64_of {z : Int} (h : (Lit.int .i64 z).wf = true) : I64 z := by
  have h1 : IntKind.i64.min = -9223372036854775808 := rfl
  have h2 : IntKind.i64.max = 9223372036854775807 := rfl
  simp only [Lit.wf, Bool.and_eq_true, decide_eq_true_eq] at h
  unfold I64
  omega
set_option maxRecDepth 100000 in
theorem open_moves {H : Type} {enc : TypeId × Value → H} {W : World} {base : Nat} {v : Value} {d : DataW H} {p : List MemPlace} (ok : Value.okWide Try.prog W .any base 29 v)
    (h : DataW.Trod enc Try.prog W 0 (fun _ => true) true 29 v d p) :
    ∃ (A : Option Addr) (n c : Nat) (K V : Nat → Int), v = .slice A n c ∧ RdV W A n K V ∧ (∀ i, i < n → I64 (V i)) ∧ (A = none → n = 0 ∧ c = 0) ∧ (n = 0 ∨ ∃ elems spare, d = .slice elems spare ∧ elems.length = n) := by
  obtain ⟨A, n, c, rfl⟩ := okWide_slice Try.underlying29 ok
  obtain ⟨fuel, hf⟩ := h
  rcases open_slice Try.underlying29 hf with ⟨hcs, _⟩ | ⟨a, len, cap, m, n', D, Pl, hcs, _, hl, hm, hmm, hx, hi⟩
  · simp [Value.cells] at hcs
    obtain ⟨rfl, rfl, rfl⟩ := hcs
    exact ⟨none, 0, 0, fun _ => 0, fun _ => 0, rfl, ⟨Nat.zero_le _, fun h => absurd h (Nat.lt_irrefl 0)⟩, fun i h => absurd h (Nat.not_lt_zero i), fun _ => ⟨rfl, rfl⟩, .inl rfl⟩
  · simp [Value.cells] at hcs
    obtain ⟨rfl, rfl, rfl⟩ := hcs
    simp at hmm
    subst hmm
    have c1 : Try.prog.cellsOf 3 = 1 := by kernel_rfl
    have key : ∀ i, i < n → ∃ q : Int × Int, W.cell? ((a.add (i * 2)).add 0) = some (.int .i64 q.1) ∧ W.cell? ((a.add (i * 2)).add 1) = some (.int .i64 q.2) ∧ I64 q.2 := by
      intro i hin
      obtain ⟨cs', hcc, htr⟩ := hi i (by omega)
      rw [cellsMove] at hcc
      obtain ⟨_, hlen, hat⟩ := World.cells?_some hcc
      obtain ⟨a0, a1, rfl⟩ := list2 cs' hlen
      obtain ⟨_, _, t0⟩ := field_at Try.underlying54 htr 0 3 0 1 [a0] ⟨_, rfl, rfl, rfl⟩ c1 rfl
      obtain ⟨x0, rfl, _⟩ := int_of Try.underlying3 t0
      obtain ⟨_, _, t1⟩ := field_at Try.underlying54 htr 1 3 1 1 [a1] ⟨_, rfl, rfl, rfl⟩ c1 rfl
      obtain ⟨x1, rfl, h1⟩ := int_of Try.underlying3 t1
      exact ⟨⟨x0, x1⟩, hat 0 (by omega), hat 1 (by omega), i64_of h1⟩
    have hF : ∃ q : Nat → Int × Int, ∀ i, i < n → W.cell? ((a.add (i * 2)).add 0) = some (.int .i64 (q i).1) ∧ W.cell? ((a.add (i * 2)).add 1) = some (.int .i64 (q i).2) ∧ I64 (q i).2 := by
      refine ⟨fun i => if h : i < n then (key i h).choose else (0, 0), fun i hin => ?_⟩
      simp only [hin, dif_pos]
      exact (key i hin).choose_spec
    obtain ⟨q, hq⟩ := hF
    refine ⟨some a, n, _, fun i => (q i).1, fun i => (q i).2, rfl, ⟨by omega, fun h0 => ?_⟩, fun i hin => (hq i hin).2.2, (fun h => by cases h), .inr ⟨_, _, congrArg Prod.fst hx, by simp⟩⟩
    obtain ⟨b, off, spot⟩ := a
    have hc0 := (hq 0 h0).1
    have hspot : spot = none := by simpa [Addr.add] using World.cell?_spot hc0
    subst hspot
    refine ⟨b, off, rfl, ?_, fun i hin => ?_⟩
    · have := World.block_lt_of_cell? _ _ hc0
      simpa [Addr.add] using this
    · obtain ⟨h1, h2, _⟩ := hq i hin
      simp only [add_cell] at h1 h2
      exact ⟨h1, h2⟩
end Go.Proofs.Ytiffgeglbafenaa.snap
