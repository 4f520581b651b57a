/-
  Both plays: comparisons, the argument.
-/
import Derived.Test.YtiffgeglbafenaaTreeRef
import Derived.Test.YtiffgeglbafenaaOpen
import Derived.Deep.Slices
namespace Go.Proofs.Ytiffgeglbafenaa.tree
open Go.ChangeShapes Go.WideShapes Go.ChangeAt Go.RowKit Go.Proofs.Ytiffgeglbafenaa.kit Go.Joins Go.Deep
set_option linter.unusedVariables false
theorem sameBytes_eq (A B : Option Addr) (n c d : Nat) (Y Z : Nat → Int) (w : World) (hY : RdI .u8 w A n Y) (hZ : RdI .u8 w B n Z) (he : ∀ i, i < n → Y i = Z i) :
    Calls Try.prog 12 #[.slice A n c, .slice B n d] w fun e w' => e = .returned (.bool true) ∧ New w w' := by
  have hm := hY.1
  unfold maxLen at hm
  have he1 := Lib.hid he
  clear he
  go_enter Try.func12, Try.ntmps12
  go_wp2
  go_loopw [5] (fun k wr => ∃ i : Nat, k = .int .i64 i ∧ i ≤ n ∧ New w wr) (fun k _ => n - (intOf k).toNat)
  case atStart => exact ⟨0, rfl, by omega, New.refl w⟩
  case round =>
    obtain ⟨i, rfl, hi, hnw⟩ := hrel
    by_cases hlt : i < n
    · obtain ⟨b, off, rfl, hb, hcs⟩ := hY.2 (by omega)
      obtain ⟨b', off', rfl, hb', hcs'⟩ := hZ.2 (by omega)
      have c0 := (hnw.cell hb).trans (hcs i hlt)
      have c1 := (hnw.cell hb').trans (hcs' i hlt)
      have he := he1.out i hlt
      clear hcs hcs'
      go_wp2
      go_quiet (fail)
      go_wp2
      go_roundw
      case rel => exact ⟨i + 1, by go_num, by omega, hnw.drewN _⟩
      case measure => simp [intOf]; omega
    · have hin : i = n := by omega
      subst hin
      go_wp2
      go_ret
      exact ⟨rfl, hnw⟩
theorem sameShowns_eq (Q : Nat → Sho) (m : Nat) (hm : m ≤ 300) (v v' : Value) (dv dv' : Nat → Value) (b b' : Nat) (w : World) (h : w.ownsRow b 46 4 v m (shoL Q dv m)) (h' : w.ownsRow b' 46 4 v' m (shoL Q dv' m)) (hd : ∀ j, j < m → DatT w (dv j) (Q j).len (Q j).d) (hd' : ∀ j, j < m → DatT w (dv' j) (Q j).len (Q j).d) :
    Calls Try.prog 7 #[v, v'] w fun e w' => e = .returned (.bool true) ∧ New w w' := by
  obtain ⟨A, c, rfl, hc1, hc2, hA, hcell⟩ := own_open h
  obtain ⟨A', c', rfl, hc1', hc2', hA', hcell'⟩ := own_open h'
  have hcl := Lib.hid hcell
  have hcl' := Lib.hid hcell'
  have hA1 := Lib.hid hA
  have hA1' := Lib.hid hA'
  have hdH := Lib.hid hd
  have hdH' := Lib.hid hd'
  clear hcell hcell' hA hA' h h' hd hd'
  go_enter Try.func7, Try.ntmps7
  go_wp2
  go_loopw [5] (fun k wr => ∃ i : Nat, k = .int .i64 i ∧ i ≤ m ∧ New w wr) (fun k _ => m - (intOf k).toNat)
  case atStart => exact ⟨0, rfl, by omega, New.refl w⟩
  case round =>
    obtain ⟨i, rfl, hi, hnw⟩ := hrel
    by_cases hlt : i < m
    · obtain ⟨g, rfl, _, hg⟩ := hA1.out (by omega)
      obtain ⟨g', rfl, _, hg'⟩ := hA1'.out (by omega)
      obtain ⟨q0, q1, q2, q3⟩ := shoL_at Q dv m i hlt
      obtain ⟨q0', q1', q2', q3'⟩ := shoL_at Q dv' m i hlt
      obtain ⟨X, xc, hx, hX⟩ := (hdH.out i hlt).read
      obtain ⟨Y, yc, hy, hY⟩ := (hdH'.out i hlt).read
      rw [hx] at q3
      rw [hy] at q3'
      obtain ⟨x0, hx0⟩ : ∃ x0, Hid (x0 = (Q i).code) := ⟨_, rfl⟩
      obtain ⟨x1, hx1⟩ : ∃ x1, Hid (x1 = (Q i).ver) := ⟨_, rfl⟩
      obtain ⟨x2, hx2⟩ : ∃ x2, Hid (x2 = (Q i).size) := ⟨_, rfl⟩
      rw [← hx0.out] at q0 q0'
      rw [← hx1.out] at q1 q1'
      rw [← hx2.out] at q2 q2'
      generalize (Q i).d = F at hX hY
      generalize (Q i).len = ln at hX hY q3 q3'
      have c0 := (hnw.cell (p := ⟨g, i * 4, none⟩) hg).trans (hcl.out g rfl (i * 4) _ q0)
      have c1 := (hnw.cell (p := ⟨g, i * 4 + 1, none⟩) hg).trans (hcl.out g rfl (i * 4 + 1) _ q1)
      have c2 := (hnw.cell (p := ⟨g, i * 4 + 2, none⟩) hg).trans (hcl.out g rfl (i * 4 + 2) _ q2)
      have c3 := (hnw.cell (p := ⟨g, i * 4 + 3, none⟩) hg).trans (hcl.out g rfl (i * 4 + 3) _ q3)
      have d0 := (hnw.cell (p := ⟨g', i * 4, none⟩) hg').trans (hcl'.out g' rfl (i * 4) _ q0')
      have d1 := (hnw.cell (p := ⟨g', i * 4 + 1, none⟩) hg').trans (hcl'.out g' rfl (i * 4 + 1) _ q1')
      have d2 := (hnw.cell (p := ⟨g', i * 4 + 2, none⟩) hg').trans (hcl'.out g' rfl (i * 4 + 2) _ q2')
      have d3 := (hnw.cell (p := ⟨g', i * 4 + 3, none⟩) hg').trans (hcl'.out g' rfl (i * 4 + 3) _ q3')
      have r0 := Lib.hid (hX.new hnw)
      have r1 := Lib.hid (hY.new hnw)
      have hnw1 := Lib.hid hnw
      clear hX hY q0 q0' q1 q1' q2 q2' q3 q3' hx hy hnw
      have k0 := NewW.keep c0
      have k1 := NewW.keep c1
      have k2 := NewW.keep c2
      have k3 := NewW.keep c3
      have k4 := NewW.keep d0
      have k5 := NewW.keep d1
      have k6 := NewW.keep d2
      have k7 := NewW.keep d3
      have hs : Hid (∀ w', New wr w' → Calls Try.prog 12 #[.slice X ln xc, .slice Y ln yc] w' fun e w'' => e = .returned (.bool true) ∧ New w' w'') := fun w' hn => sameBytes_eq _ _ _ _ _ _ _ _ (r0.out.new hn) (r1.out.new hn) (fun _ _ => rfl)
      have a1 : (i : Int) < (m : Int) := by omega
      have a3 : (0 : Int) ≤ (i : Int) := by omega
      go_wp2
      (refine wp_region_quiet_new (by kernel_rfl) (by kernel_rfl) ?_; (repeat (first | go_big_quiet_step (first | (go_at_call 12; exact NewW.call _ (hs.out _ (NewW.is _)))) | quiet_step (first | (go_at_call 12; exact NewW.call _ (hs.out _ (NewW.is _)))))); refine wpQuiet_nil ?_; rintro W2 ⟨⟨_, hn_W2⟩, rfl⟩)
      go_wp2
      go_roundw
      case rel => exact ⟨i + 1, by go_num, by omega, hnw1.out.next hn_W2⟩
      case measure => simp [intOf]; omega
    · have hin : i = m := by omega
      subst hin
      go_wp2
      go_ret
      exact ⟨rfl, hnw⟩
theorem cellsStep : Try.prog.cellsOf 44 = 5 := by kernel_rfl
theorem list5 (l : List Value) (h : l.length = 5) : ∃ a0 a1 a2 a3 a4, l = [a0, a1, a2, a3, a4] := by
  match l, h with
  | [a0, a1, a2, a3, a4], _ => exact ⟨_, _, _, _, _, rfl⟩
set_option maxRecDepth 100000 in
theorem open_steps {H : Type} {enc : TypeId × Value → H} {W : World} {base : Nat} {v : Value} {d : DataW H} {p : List MemPlace} (ok : Value.okWide Try.prog W .any base 22 v)
    (h : DataW.Trod enc Try.prog W 0 (fun _ => true) true 22 v d p) :
    ∃ (A : Option Addr) (n c : Nat) (K V O C : Nat → Int) (R : Nat → Option Addr) (L X : Nat → Nat) (D : Nat → Nat → Nat), v = .slice A n c ∧ RdS W A n K V O C R L X D := by
  obtain ⟨A, n, c, rfl⟩ := okWide_slice Try.underlying22 ok
  obtain ⟨fuel, hf⟩ := h
  rcases open_slice Try.underlying22 hf with ⟨hcs, _⟩ | ⟨a, len, cap, m, n', D, Pl, hcs, _, hl, hm, hmm, _, hi⟩
  · simp [Value.cells] at hcs
    obtain ⟨rfl, rfl, rfl⟩ := hcs
    exact ⟨none, 0, 0, fun _ => 0, fun _ => 0, fun _ => 0, fun _ => 0, fun _ => none, fun _ => 0, fun _ => 0, fun _ _ => 0, rfl, ⟨Nat.zero_le _, fun h => absurd h (Nat.lt_irrefl 0), fun i h => absurd h (Nat.not_lt_zero i)⟩⟩
  · simp [Value.cells] at hcs
    obtain ⟨rfl, rfl, rfl⟩ := hcs
    simp at hmm
    subst hmm
    have cs1 : Try.prog.cellsOf 42 = 1 := by kernel_rfl
    have c1 : Try.prog.cellsOf 3 = 1 := by kernel_rfl
    have key : ∀ i, i < n → ∃ q : (Int × Int × Int × Int) × Option Addr × Nat × Nat × (Nat → Int), W.cell? ((a.add (i * 5)).add 0) = some (.int .i64 q.1.1) ∧ W.cell? ((a.add (i * 5)).add 1) = some (.int .i64 q.1.2.1) ∧ W.cell? ((a.add (i * 5)).add 2) = some (.int .i64 q.1.2.2.1) ∧ W.cell? ((a.add (i * 5)).add 3) = some (.int .i64 q.1.2.2.2) ∧ W.cell? ((a.add (i * 5)).add 4) = some (.slice q.2.1 q.2.2.1 q.2.2.2.1) ∧ RdI .u8 W q.2.1 q.2.2.1 q.2.2.2.2 ∧ q.2.2.1 ≤ q.2.2.2.1 ∧ q.2.2.2.1 ≤ maxLen ∧ ∀ j, j < q.2.2.1 → (Lit.int .u8 (q.2.2.2.2 j)).wf = true := by
      intro i hin
      obtain ⟨cs', hcc, htr⟩ := hi i (by omega)
      rw [cellsStep] at hcc
      obtain ⟨_, hlen, hat⟩ := World.cells?_some hcc
      obtain ⟨a0, a1, a2, a3, a4, rfl⟩ := list5 cs' hlen
      obtain ⟨_, _, t0⟩ := field_at Try.underlying44 htr 0 3 0 1 [a0] ⟨_, rfl, rfl, rfl⟩ c1 rfl
      obtain ⟨x0, rfl, _⟩ := int_of Try.underlying3 t0
      obtain ⟨_, _, t1⟩ := field_at Try.underlying44 htr 1 3 1 1 [a1] ⟨_, rfl, rfl, rfl⟩ c1 rfl
      obtain ⟨x1, rfl, _⟩ := int_of Try.underlying3 t1
      obtain ⟨_, _, t2⟩ := field_at Try.underlying44 htr 2 3 2 1 [a2] ⟨_, rfl, rfl, rfl⟩ c1 rfl
      obtain ⟨x2, rfl, _⟩ := int_of Try.underlying3 t2
      obtain ⟨_, _, t3⟩ := field_at Try.underlying44 htr 3 3 3 1 [a3] ⟨_, rfl, rfl, rfl⟩ c1 rfl
      obtain ⟨x3, rfl, _⟩ := int_of Try.underlying3 t3
      obtain ⟨_, _, t4⟩ := field_at Try.underlying44 htr 4 42 4 1 [a4] ⟨_, rfl, rfl, rfl⟩ cs1 rfl
      obtain ⟨A', n', c', Z', rfl, h1, h2, h3, h4, _⟩ := open_rowI Try.underlying42 Try.underlying5 (by kernel_rfl) t4
      exact ⟨⟨⟨x0, x1, x2, x3⟩, A', n', c', Z'⟩, hat 0 (by omega), hat 1 (by omega), hat 2 (by omega), hat 3 (by omega), hat 4 (by omega), h1, h2, h3, h4⟩
    have hF : ∃ q : Nat → (Int × Int × Int × Int) × Option Addr × Nat × Nat × (Nat → Int), ∀ i, i < n → W.cell? ((a.add (i * 5)).add 0) = some (.int .i64 (q i).1.1) ∧ W.cell? ((a.add (i * 5)).add 1) = some (.int .i64 (q i).1.2.1) ∧ W.cell? ((a.add (i * 5)).add 2) = some (.int .i64 (q i).1.2.2.1) ∧ W.cell? ((a.add (i * 5)).add 3) = some (.int .i64 (q i).1.2.2.2) ∧ W.cell? ((a.add (i * 5)).add 4) = some (.slice (q i).2.1 (q i).2.2.1 (q i).2.2.2.1) ∧ RdI .u8 W (q i).2.1 (q i).2.2.1 (q i).2.2.2.2 ∧ (q i).2.2.1 ≤ (q i).2.2.2.1 ∧ (q i).2.2.2.1 ≤ maxLen ∧ ∀ j, j < (q i).2.2.1 → (Lit.int .u8 ((q i).2.2.2.2 j)).wf = true := by
      refine ⟨fun i => if h : i < n then (key i h).choose else ((0, 0, 0, 0), none, 0, 0, fun _ => 0), fun i hin => ?_⟩
      simp only [hin, dif_pos]
      exact (key i hin).choose_spec
    obtain ⟨q, hq⟩ := hF
    refine ⟨some a, n, _, fun i => (q i).1.1, fun i => (q i).1.2.1, fun i => (q i).1.2.2.1, fun i => (q i).1.2.2.2, fun i => (q i).2.1, fun i => (q i).2.2.1, fun i => (q i).2.2.2.1, fun i k => ((q i).2.2.2.2 k).toNat, rfl, ⟨by omega, fun h0 => ?_, fun i hin => ?_⟩⟩
    · obtain ⟨b, off, spot⟩ := a
      have hc0 := (hq 0 h0).1
      have hspot : spot = none := by simpa [Addr.add] using World.cell?_spot hc0
      subst hspot
      refine ⟨b, off, rfl, ?_, fun i hin => ?_⟩
      · have := World.block_lt_of_cell? _ _ hc0
        simpa [Addr.add] using this
      · obtain ⟨h1, h2, h3, h4, h5, _⟩ := hq i hin
        simp only [add_cell] at h1 h2 h3 h4 h5
        exact ⟨h1, h2, h3, h4, h5⟩
    · obtain ⟨_, _, _, _, _, h3, h4, h5, h6⟩ := hq i hin
      refine ⟨⟨h3.1, fun h0 => ?_⟩, h4, h5⟩
      obtain ⟨b, off, e1, e2, e3⟩ := h3.2 h0
      refine ⟨b, off, e1, e2, fun k hk => ?_⟩
      rw [e3 k hk]
      have := bounds_u8 (h6 k hk)
      dsimp only
      congr 2
      omega
end Go.Proofs.Ytiffgeglbafenaa.tree
