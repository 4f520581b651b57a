/-
  Both plays: answers, comparisons, the argument.
-/
import Derived.Test.YthjjchlibbheaaaSpacePlayed
import Derived.Test.YthjjchlibbheaaaSpaceOpen
namespace Go.Proofs.Ythjjchlibbheaaa.space
open Go.ChangeShapes Go.WideShapes Go.ChangeAt Go.RowKit Go.Proofs.Ythjjchlibbheaaa.kit Go.Joins Go.Deep
set_option linter.unusedVariables false

abbrev AnsP (cd : Int) (fl : Fnds) (rl : Recs) (w : World) : Ending → World → Prop := fun e w' => ∃ v1 v2, e = .returned (.tuple #[v1, v2, .int .i64 cd]) ∧ w'.ownsRow w.heap.size 85 3 v1 fl.length (fdL fl) ∧ w'.ownsRow w.heap.size 77 3 v2 rl.length (rrL rl) ∧ New w w'
theorem ansNilP (cd : Int) {w w' : World} (h : New w w') : AnsP cd [] [] w (.returned (.tuple #[.slice none 0 0, .slice none 0 0, .int .i64 cd])) w' := ⟨_, _, rfl, World.ownsRow_nil _ _ _ _, World.ownsRow_nil _ _ _ _, h⟩
set_option maxRecDepth 100000 in
theorem Play_bad (n : Int) (v : Value) (w : World) (h : ¬ sizeP n) : Calls Try.prog 16 #[.int .i64 n, v] w (AnsP 2 [] [] w) := by
  have hd : decide (sizeP n) = false := decide_eq_false h
  clear h
  go_enter Try.func16, Try.ntmps16
  go_wp2_with fail
  refine (sized_any _ _).mono ?_
  rw [hd]
  rintro e w1 ⟨rfl, rfl⟩
  go_wp2
  exact bodyPost_ret (v := .tuple #[.slice none 0 0, .slice none 0 0, .int .i64 2]) (by simp [results, Try.results16, go_sem]) rfl (ansNilP 2 (New.refl _))
set_option maxRecDepth 100000 in
theorem Play_long (n : Int) (A : Option Addr) (m c : Nat) (w : World) (h : sizeP n) (hm : 300 < m) (hmx : m ≤ maxLen) : Calls Try.prog 16 #[.int .i64 n, .slice A m c] w (AnsP 1 [] [] w) := by
  have hd : decide (sizeP n) = true := decide_eq_true h
  unfold maxLen at hmx
  have hm3 : (300 : Int) < (m : Int) := by omega
  clear h
  go_enter Try.func16, Try.ntmps16
  go_wp2_with fail
  refine (sized_any _ _).mono ?_
  rw [hd]
  rintro e w1 ⟨rfl, rfl⟩
  go_wp2
  exact bodyPost_ret (v := .tuple #[.slice none 0 0, .slice none 0 0, .int .i64 1]) (by simp [results, Try.results16, go_sem]) rfl (ansNilP 1 (New.refl _))
set_option maxRecDepth 100000 in
theorem SpacePlayed_bad (n : Int) (v : Value) (w : World) (h : ¬ sizeP n) : Calls Try.prog 17 #[.int .i64 n, v] w (AnsP 2 [] [] w) := by
  have hd : n < 1 ∨ 4096 < n := by unfold sizeP at h; omega
  clear h
  go_enter Try.func17, Try.ntmps17
  go_wp2
  all_goals exact bodyPost_ret (v := .tuple #[.slice none 0 0, .slice none 0 0, .int .i64 2]) (by simp [results, Try.results17, go_sem]) rfl (ansNilP 2 (New.refl _))
set_option maxRecDepth 100000 in
theorem SpacePlayed_long (n : Int) (A : Option Addr) (m c : Nat) (w : World) (h : sizeP n) (hm : 300 < m) (hmx : m ≤ maxLen) : Calls Try.prog 17 #[.int .i64 n, .slice A m c] w (AnsP 1 [] [] w) := by
  obtain ⟨h1, h2⟩ := h
  have h1' : ¬ n < 1 := by omega
  have h2' : ¬ 4096 < n := by omega
  unfold maxLen at hmx
  have hm3 : (300 : Int) < (m : Int) := by omega
  go_enter Try.func17, Try.ntmps17
  go_wp2
  all_goals exact bodyPost_ret (v := .tuple #[.slice none 0 0, .slice none 0 0, .int .i64 1]) (by simp [results, Try.results17, go_sem]) rfl (ansNilP 1 (New.refl _))

theorem fdL_at : ∀ (l : Fnds) (i : Nat) (h : i < l.length), (fdL l)[i * 3]? = some (.int .i64 (l[i]).1) ∧ (fdL l)[i * 3 + 1]? = some (.int .i64 (l[i]).2.1) ∧ (fdL l)[i * 3 + 2]? = some (.int .i64 ((l[i]).2.2 : Nat))
  | [], i, h => absurd h (Nat.not_lt_zero i)
  | p :: l, 0, _ => ⟨rfl, rfl, rfl⟩
  | p :: l, i + 1, h => by
    have ih := fdL_at l i (by simpa using h)
    have e : fdL (p :: l) = fdV p ++ fdL l := rfl
    rw [e, List.getElem?_append_right (by simp [fdV]; omega), List.getElem?_append_right (by simp [fdV]; omega), List.getElem?_append_right (by simp [fdV]; omega), show (i + 1) * 3 - (fdV p).length = i * 3 by simp [fdV]; omega, show (i + 1) * 3 + 1 - (fdV p).length = i * 3 + 1 by simp [fdV]; omega, show (i + 1) * 3 + 2 - (fdV p).length = i * 3 + 2 by simp [fdV]; omega]
    exact ih
theorem sameFounds_eq2 (L : Fnds) (hn : L.length ≤ 300) (v v' : Value) (b b' : Nat) (w : World) (h : w.ownsRow b 85 3 v L.length (fdL L)) (h' : w.ownsRow b' 85 3 v' L.length (fdL L)) :
    Calls Try.prog 18 #[v, v'] w fun e w' => e = .returned (.bool true) ∧ New w w' := by
  obtain ⟨A, c, rfl, hc1, hc2, hA, hcell⟩ := own_open h
  obtain ⟨A', c', rfl, hc1', hc2', hA', hcell'⟩ := own_open h'
  have hcl := Lib.hid hcell
  have hcl' := Lib.hid hcell'
  have hA1 := Lib.hid hA
  have hA1' := Lib.hid hA'
  obtain ⟨n, hnL⟩ : ∃ n, Hid (L.length = n) := ⟨_, (rfl : _ = _)⟩
  rw [hnL.out] at hn hc1 hc1' ⊢
  clear hcell hcell' hA hA' h h'
  go_enter Try.func18, Try.ntmps18
  go_wp2
  go_loopw [5] (fun k wr => ∃ i : Nat, k = .int .i64 i ∧ i ≤ n ∧ New w wr) (fun k _ => n - (intOf k).toNat)
  case atStart => exact ⟨0, rfl, by omega, New.refl w⟩
  case round =>
    obtain ⟨i, rfl, hi, hnw⟩ := hrel
    by_cases hlt : i < n
    · have hiL : i < L.length := by rw [hnL.out]; exact hlt
      obtain ⟨g, rfl, _, hg⟩ := hA1.out (by omega)
      obtain ⟨g', rfl, _, hg'⟩ := hA1'.out (by omega)
      obtain ⟨q0, q1, q2⟩ := fdL_at L i hiL
      generalize (L[i]).1 = x0 at q0
      generalize (L[i]).2.1 = x1 at q1
      generalize (((L[i]).2.2 : Nat) : Int) = x2 at q2
      have c0 := (hnw.cell (p := ⟨g, i * 3, none⟩) hg).trans (hcl.out g rfl (i * 3) _ q0)
      have c1 := (hnw.cell (p := ⟨g, i * 3 + 1, none⟩) hg).trans (hcl.out g rfl (i * 3 + 1) _ q1)
      have c2 := (hnw.cell (p := ⟨g, i * 3 + 2, none⟩) hg).trans (hcl.out g rfl (i * 3 + 2) _ q2)
      have d0 := (hnw.cell (p := ⟨g', i * 3, none⟩) hg').trans (hcl'.out g' rfl (i * 3) _ q0)
      have d1 := (hnw.cell (p := ⟨g', i * 3 + 1, none⟩) hg').trans (hcl'.out g' rfl (i * 3 + 1) _ q1)
      have d2 := (hnw.cell (p := ⟨g', i * 3 + 2, none⟩) hg').trans (hcl'.out g' rfl (i * 3 + 2) _ q2)
      clear q0 q1 q2 hiL
      have i0 : (0 : Int) ≤ (i : Int) := by omega
      have i1 : (i : Int) < (n : Int) := by omega
      go_wp2
      go_quiet (fail)
      go_wp2
      go_roundw
      case rel => exact ⟨i + 1, by go_num, by omega, hnw.drewN _⟩
      case measure => simp [intOf]; omega
    · have hin : i = n := by omega
      subst hin
      go_wp2
      go_ret
      exact ⟨rfl, hnw⟩
theorem rrL_at : ∀ (l : Recs) (i : Nat) (h : i < l.length), (rrL l)[i * 3]? = some (.bool (l[i]).1) ∧ (rrL l)[i * 3 + 1]? = some (.int .i64 ((l[i]).2.1 : Nat)) ∧ (rrL l)[i * 3 + 2]? = some (.int .i64 ((l[i]).2.2 : Nat))
  | [], i, h => absurd h (Nat.not_lt_zero i)
  | p :: l, 0, _ => ⟨rfl, rfl, rfl⟩
  | p :: l, i + 1, h => by
    have ih := rrL_at l i (by simpa using h)
    have e : rrL (p :: l) = rrV p ++ rrL l := rfl
    rw [e, List.getElem?_append_right (by simp [rrV]; omega), List.getElem?_append_right (by simp [rrV]; omega), List.getElem?_append_right (by simp [rrV]; omega), show (i + 1) * 3 - (rrV p).length = i * 3 by simp [rrV]; omega, show (i + 1) * 3 + 1 - (rrV p).length = i * 3 + 1 by simp [rrV]; omega, show (i + 1) * 3 + 2 - (rrV p).length = i * 3 + 2 by simp [rrV]; omega]
    exact ih
theorem sameRecords_eq2 (L : Recs) (hn : L.length ≤ 2000000) (v v' : Value) (b b' : Nat) (w : World) (h : w.ownsRow b 77 3 v L.length (rrL L)) (h' : w.ownsRow b' 77 3 v' L.length (rrL L)) :
    Calls Try.prog 15 #[v, v'] w fun e w' => e = .returned (.bool true) ∧ New w w' := by
  obtain ⟨A, c, rfl, hc1, hc2, hA, hcell⟩ := own_open h
  obtain ⟨A', c', rfl, hc1', hc2', hA', hcell'⟩ := own_open h'
  have hcl := Lib.hid hcell
  have hcl' := Lib.hid hcell'
  have hA1 := Lib.hid hA
  have hA1' := Lib.hid hA'
  obtain ⟨n, hnL⟩ : ∃ n, Hid (L.length = n) := ⟨_, (rfl : _ = _)⟩
  rw [hnL.out] at hn hc1 hc1' ⊢
  clear hcell hcell' hA hA' h h'
  go_enter Try.func15, Try.ntmps15
  go_wp2
  go_loopw [5] (fun k wr => ∃ i : Nat, k = .int .i64 i ∧ i ≤ n ∧ New w wr) (fun k _ => n - (intOf k).toNat)
  case atStart => exact ⟨0, rfl, by omega, New.refl w⟩
  case round =>
    obtain ⟨i, rfl, hi, hnw⟩ := hrel
    by_cases hlt : i < n
    · have hiL : i < L.length := by rw [hnL.out]; exact hlt
      obtain ⟨g, rfl, _, hg⟩ := hA1.out (by omega)
      obtain ⟨g', rfl, _, hg'⟩ := hA1'.out (by omega)
      obtain ⟨q0, q1, q2⟩ := rrL_at L i hiL
      generalize (L[i]).1 = x0 at q0
      generalize (((L[i]).2.1 : Nat) : Int) = x1 at q1
      generalize (((L[i]).2.2 : Nat) : Int) = x2 at q2
      have c0 := (hnw.cell (p := ⟨g, i * 3, none⟩) hg).trans (hcl.out g rfl (i * 3) _ q0)
      have c1 := (hnw.cell (p := ⟨g, i * 3 + 1, none⟩) hg).trans (hcl.out g rfl (i * 3 + 1) _ q1)
      have c2 := (hnw.cell (p := ⟨g, i * 3 + 2, none⟩) hg).trans (hcl.out g rfl (i * 3 + 2) _ q2)
      have d0 := (hnw.cell (p := ⟨g', i * 3, none⟩) hg').trans (hcl'.out g' rfl (i * 3) _ q0)
      have d1 := (hnw.cell (p := ⟨g', i * 3 + 1, none⟩) hg').trans (hcl'.out g' rfl (i * 3 + 1) _ q1)
      have d2 := (hnw.cell (p := ⟨g', i * 3 + 2, none⟩) hg').trans (hcl'.out g' rfl (i * 3 + 2) _ q2)
      clear q0 q1 q2 hiL
      have i0 : (0 : Int) ≤ (i : Int) := by omega
      have i1 : (i : Int) < (n : Int) := by omega
      go_wp2
      go_quiet (fail)
      go_wp2
      go_roundw
      case rel => exact ⟨i + 1, by go_num, by omega, hnw.drewN _⟩
      case measure => simp [intOf]; omega
    · have hin : i = n := by omega
      subst hin
      go_wp2
      go_ret
      exact ⟨rfl, hnw⟩
theorem cellsDeed : Try.prog.cellsOf 83 = 3 := by kernel_rfl
set_option maxRecDepth 100000 in
theorem open_deeds {H : Type} {enc : TypeId × Value → H} {W : World} {base : Nat} {v : Value} {d : DataW H} {p : List MemPlace} (ok : Value.okWide Try.prog W .any base 32 v)
    (h : DataW.Trod enc Try.prog W 0 (fun _ => true) true 32 v d p) :
    ∃ (A : Option Addr) (n c : Nat) (B F T : Nat → Int), v = .slice A n c ∧ RdD W A n B F T := by
  obtain ⟨A, n, c, rfl⟩ := okWide_slice Try.underlying32 ok
  obtain ⟨fuel, hf⟩ := h
  rcases open_slice Try.underlying32 hf with ⟨hcs, _⟩ | ⟨a, len, cap, m, n', D, Pl, hcs, _, hl, hm, hmm, _, hi⟩
  · simp [Value.cells] at hcs
    obtain ⟨rfl, rfl, rfl⟩ := hcs
    exact ⟨none, 0, 0, fun _ => 0, fun _ => 0, fun _ => 0, rfl, ⟨Nat.zero_le _, fun h => absurd h (Nat.lt_irrefl 0)⟩⟩
  · simp [Value.cells] at hcs
    obtain ⟨rfl, rfl, rfl⟩ := hcs
    simp at hmm
    subst hmm
    have c1 : Try.prog.cellsOf 3 = 1 := by kernel_rfl
    have key : ∀ i, i < n → ∃ q : Int × Int × Int, W.cell? ((a.add (i * 3)).add 0) = some (.int .i64 q.1) ∧ W.cell? ((a.add (i * 3)).add 1) = some (.int .i64 q.2.1) ∧ W.cell? ((a.add (i * 3)).add 2) = some (.int .i64 q.2.2) := by
      intro i hin
      obtain ⟨cs', hcc, htr⟩ := hi i (by omega)
      rw [cellsDeed] at hcc
      obtain ⟨_, hlen, hat⟩ := World.cells?_some hcc
      obtain ⟨a0, a1, a2, rfl⟩ := list3 cs' hlen
      obtain ⟨_, _, t0⟩ := field_at Try.underlying83 htr 0 3 0 1 [a0] ⟨_, rfl, rfl, rfl⟩ c1 rfl
      obtain ⟨x0, rfl, _⟩ := int_of Try.underlying3 t0
      obtain ⟨_, _, t1⟩ := field_at Try.underlying83 htr 1 3 1 1 [a1] ⟨_, rfl, rfl, rfl⟩ c1 rfl
      obtain ⟨x1, rfl, _⟩ := int_of Try.underlying3 t1
      obtain ⟨_, _, t2⟩ := field_at Try.underlying83 htr 2 3 2 1 [a2] ⟨_, rfl, rfl, rfl⟩ c1 rfl
      obtain ⟨x2, rfl, _⟩ := int_of Try.underlying3 t2
      exact ⟨⟨x0, x1, x2⟩, hat 0 (by omega), hat 1 (by omega), hat 2 (by omega)⟩
    have hF : ∃ q : Nat → Int × Int × Int, ∀ i, i < n → W.cell? ((a.add (i * 3)).add 0) = some (.int .i64 (q i).1) ∧ W.cell? ((a.add (i * 3)).add 1) = some (.int .i64 (q i).2.1) ∧ W.cell? ((a.add (i * 3)).add 2) = some (.int .i64 (q i).2.2) := by
      refine ⟨fun i => if h : i < n then (key i h).choose else (0, 0, 0), fun i hin => ?_⟩
      simp only [hin, dif_pos]
      exact (key i hin).choose_spec
    obtain ⟨q, hq⟩ := hF
    refine ⟨some a, n, _, fun i => (q i).1, fun i => (q i).2.1, fun i => (q i).2.2, rfl, ⟨by omega, fun h0 => ?_⟩⟩
    obtain ⟨b, off, spot⟩ := a
    have hc0 := (hq 0 h0).1
    have hspot : spot = none := by simpa [Addr.add] using World.cell?_spot hc0
    subst hspot
    refine ⟨b, off, rfl, ?_, fun i hin => ?_⟩
    · have := lt_of_cell hc0
      simpa [Addr.add] using this
    · obtain ⟨h1, h2, h3⟩ := hq i hin
      simp only [add_cell] at h1 h2 h3
      exact ⟨h1, h2, h3⟩
end Go.Proofs.Ythjjchlibbheaaa.space