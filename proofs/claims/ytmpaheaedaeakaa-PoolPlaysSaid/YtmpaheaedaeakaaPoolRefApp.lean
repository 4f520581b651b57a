/-
  Two lists one behind the other, in an own row of shots: the append.
-/
import Derived.Test.YtmpaheaedaeakaaPoolRefDoes9
namespace Go.Proofs.Ytmpaheaedaeakaa.pool
open Go.ChangeShapes Go.WideShapes Go.ChangeAt Go.RowKit Go.Proofs.Ytmpaheaedaeakaa.kit Go.Deep Go.Maps
set_option linter.unusedVariables false
set_option maxRecDepth 100000
section
variable {α : Type} [Inhabited α]
theorem nth_app_left {l m : List (Nm × α)} {i : Nat} (h : i < l.length) : nth (l ++ m) i = nth l i := by
  unfold nth
  rw [List.getD, List.getD, List.getElem?_append_left h]
theorem nth_app_right {l m : List (Nm × α)} {i : Nat} (h : l.length ≤ i) : nth (l ++ m) i = nth m (i - l.length) := by
  unfold nth
  rw [List.getD, List.getD, List.getElem?_append_right h]
/-- the values of two lists -/
def catV (n : Nat) (U V : Nat → Value) (i : Nat) : Value := if i < n then U i else V (i - n)
theorem lsL_cat (l : List (Nm × α)) (U V : Nat → Value) : ∀ m : List (Nm × α), lsL (l ++ m) (catV l.length U V) = lsL l U ++ lsL m V := by
  intro m
  unfold lsL
  rw [List.length_append, List.range_eq_range', List.range_eq_range', List.range_eq_range']
  rw [← List.range'_append_1, List.flatMap_append]
  congr 1
  · rw [List.flatMap_def, List.flatMap_def]
    congr 1
    apply List.map_congr_left
    intro i hi
    have hi : i < l.length := by
      have := List.mem_range'_1.1 hi
      omega
    rw [nth_app_left hi]
    unfold catV
    rw [if_pos hi]
  · rw [Nat.zero_add, List.range'_eq_map_range, List.flatMap_def, List.flatMap_def, List.map_map, List.range_eq_range']
    congr 1
    apply List.map_congr_left
    intro i hi
    show [encStr (nth (l ++ m) (l.length + i)).1, catV l.length U V (l.length + i)] = _
    rw [nth_app_right (by omega), Nat.add_sub_cancel_left]
    unfold catV
    rw [if_neg (by omega), Nat.add_sub_cancel_left]
theorem OL.cat {rd : Value → α → Prop} {base : Nat} {e : TypeId} {w w7 : World} {v v7 : Value} {l m : List (Nm × α)} {U V : Nat → Value} (h : OL rd base e w v l U) (ho : w7.ownsRow base e 2 v7 (l.length + m.length) (lsL l U ++ lsL m V)) (h2 : ∀ i, i < m.length → rd (V i) (nth m i).2 ∧ (V i).oneCell' = true) : OL rd base e w7 v7 (l ++ m) (catV l.length U V) := by
  refine ⟨?_, fun i hi => ?_⟩
  · rw [lsL_cat, List.length_append]
    exact ho
  · rw [List.length_append] at hi
    unfold catV
    by_cases e : i < l.length
    · rw [nth_app_left e, if_pos e]
      exact h.2 i e
    · rw [nth_app_right (by omega), if_neg e]
      exact h2 _ (by omega)
end
theorem app_run {rd : Value → Ths → Prop} {base : Nat} {w : World} {v : Value} {l : List (Nm × Ths)} {U : Nat → Value} (h : OL rd base 60 w v l U) (hb : base ≤ w.heap.size) (g off n c : Nat) (m : List (Nm × Ths)) (V : Nat → Value) (hn : n = m.length)
    (hc : ∀ i, i < m.length → w.cell? ⟨g, off + i * 2, none⟩ = some (encStr (nth m i).1) ∧ w.cell? ⟨g, off + i * 2 + 1, none⟩ = some (V i)) (h2 : ∀ i, i < m.length → rd (V i) (nth m i).2 ∧ (V i).oneCell' = true) (hs : l.length + m.length ≤ 100) (ty : TypeId) :
    ∃ A' c' w', (Builtin.append_ #[40, 40] ty #[v, .slice (some ⟨g, off, none⟩) n c]).run Try.prog w = .ok (.slice A' (l.length + n) c') w' ∧ OL rd base 60 w' (.slice A' (l.length + n) c') (l ++ m) (catV l.length U V) ∧ w.grownBy w' v.ownBlock := by
  subst hn
  obtain ⟨i0, hi0, hz0, hz1, hz2⟩ := info_parts infoShotR
  obtain ⟨v', w', hr, ho, hg, _⟩ := run_append_own w base 40 ty 60 i0 _ 2 40 Try.underlying40 hi0 hz0 hz1 hz2 rfl (by decide) v l.length (lsL l U) h.1 ⟨g, off, none⟩ m.length c (lsL m V) (lsL_len _ _) (fun j u hj => by
      have hjm : j < m.length * 2 := by
        have := (List.getElem?_eq_some_iff.1 hj).1
        rwa [lsL_len] at this
      rw [add_cell]
      obtain ⟨p0, p1⟩ := lsL_at m V (i := j / 2) (by omega)
      obtain ⟨q0, q1⟩ := hc (j / 2) (by omega)
      rcases Nat.mod_two_eq_zero_or_one j with h3 | h3
      · rw [show j / 2 * 2 = j by omega] at p0 q0
        rw [p0] at hj
        cases hj
        exact q0
      · rw [show j / 2 * 2 + 1 = j by omega] at p1
        rw [Nat.add_assoc, show j / 2 * 2 + 1 = j by omega] at q1
        rw [p1] at hj
        cases hj
        exact q1) (fun u hu => by
      obtain ⟨i, hi, hi2⟩ := List.mem_flatMap.1 hu
      have := List.mem_range.1 hi
      simp at hi2
      rcases hi2 with rfl | rfl
      · rfl
      · exact (h2 i (by omega)).2) (by unfold maxLen; omega) (by omega) hb
  obtain ⟨A', c', rfl, _⟩ := own_open ho
  exact ⟨A', c', w', hr, h.cat ho h2, hg⟩
theorem step_append_run {P : Program} {ops : Array Oper} {o : Oper} {a : Act} {K : Act → World → Prop} {Q : Exit → Act → World → Prop} {E : Prop} {w w' : World} {v : Value} (hgd : o.guard = none) (s x : Operand) (t : TypeId)
    (ho : o.op = .call { callee := .builtin .append, args := #[s, x], argTypes := #[t, t] }) (sv xv : Value) (hs : a.eval s = sv) (hx : a.eval x = xv) (hr : (Builtin.append_ #[t, t] o.type #[sv, xv]).run P w = .ok v w')
    (h : K (a.put o.dst v) w') : if Region.wanted o (yielded ops a.tmps) = true then Oper.wp P o a w K Q else E := by
  have hw : Region.wanted o (yielded ops a.tmps) = true := by simp [Region.wanted, hgd]
  rw [if_pos hw]
  unfold Oper.wp execOp
  simp only [ho, resolve, invoke, builtin, Sem.run_bind, Sem.run_pure, Result.andThen_ok, List.map_toArray, List.map_cons, List.map_nil, hs, hx, hr]
  exact h
theorem nth_take {α : Type} [Inhabited α] {l : List (Nm × α)} {k i : Nat} (h : i < k) : nth (l.take k) i = nth l i := by
  unfold nth
  rw [List.getD, List.getD, List.getElem?_take_of_lt h]
theorem nth_drop {α : Type} [Inhabited α] {l : List (Nm × α)} {k i : Nat} : nth (l.drop k) i = nth l (k + i) := by
  unfold nth
  rw [List.getD, List.getD, List.getElem?_drop]
/-- what is ahead of number i, and what is behind it: two appends -/
theorem two_runs {w wd : World} {l : List (Nm × Ths)} {i g off sc : Nat} {V : Nat → Value} (hi : i < l.length) (hl : l.length ≤ 3) (hg : g < wd.heap.size)
    (hc : ∀ j, j < l.length → wd.cell? ⟨g, off + j * 2, none⟩ = some (encStr (nth l j).1) ∧ wd.cell? ⟨g, off + j * 2 + 1, none⟩ = some (V j)) (h2 : ∀ j, j < l.length → TL w (V j) (nth l j).2 ∧ (V j).oneCell' = true) (hN : New w wd) (ty : TypeId) (o : Nat) (ho : i + 1 < l.length → o = off + (i + 1) * 2) :
    ∃ A1 c1 w1 A2 c2 w2, (Builtin.append_ #[40, 40] ty #[.slice none 0 0, .slice (some ⟨g, off, none⟩) i sc]).run Try.prog wd = .ok (.slice A1 i c1) w1 ∧
      (Builtin.append_ #[40, 40] ty #[.slice A1 i c1, .slice (some ⟨g, o, none⟩) (l.length - (i + 1)) (sc - (i + 1))]).run Try.prog w1 = .ok (.slice A2 (l.length - 1) c2) w2 ∧
      New wd w1 ∧ New wd w2 ∧ SL w2 (.slice A2 (l.length - 1) c2) (l.take i ++ l.drop (i + 1)) := by
  have e1 : (l.take i).length = i := by rw [List.length_take]; omega
  have e2 : (l.drop (i + 1)).length = l.length - (i + 1) := List.length_drop ..
  obtain ⟨A1, c1, w1, hr1, hO1, hg1⟩ := app_run (rd := TL w) (base := wd.heap.size) (U := V) (OL.nil (TL w) wd.heap.size 60 wd V) (Nat.le_refl _) g off i sc (l.take i) V e1.symm (fun j hj => by
    rw [e1] at hj
    rw [nth_take hj]
    exact hc j (by omega)) (fun j hj => by
    rw [e1] at hj
    rw [nth_take hj]
    exact h2 j (by omega)) (by rw [e1]; simp; omega) ty
  rw [List.nil_append] at hO1
  rw [show ([] : List (Nm × Ths)).length + i = i from Nat.zero_add i] at hr1 hO1
  have hN1 : New wd w1 := (New.refl wd).grown hg1 fun r e => by cases e
  obtain ⟨A2, c2, w2, hr2, hO2, hg2⟩ := app_run (rd := TL w) (base := wd.heap.size) hO1 hN1.size g o (l.length - (i + 1)) (sc - (i + 1)) (l.drop (i + 1)) (fun j => V (i + 1 + j)) e2.symm (fun j hj => by
    rw [e2] at hj
    rw [nth_drop, ho (by omega)]
    have h := hc (i + 1 + j) (by omega)
    rw [show off + (i + 1) * 2 + j * 2 = off + (i + 1 + j) * 2 by omega]
    exact ⟨(hN1.cell (p := ⟨g, off + (i + 1 + j) * 2, none⟩) hg).trans h.1, (hN1.cell (p := ⟨g, off + (i + 1 + j) * 2 + 1, none⟩) hg).trans h.2⟩) (fun j hj => by
    rw [e2] at hj
    rw [nth_drop]
    exact h2 _ (by omega)) (by rw [e1, e2]; omega) ty
  rw [e1, show i + (l.length - (i + 1)) = l.length - 1 by omega] at hr2 hO2
  have hN2 : New wd w2 := hN1.grown hg2 fun r e => (hO1.1.lt r e).1
  exact ⟨A1, c1, w1, A2, c2, w2, hr1, hr2, hN1, hN2, LL.new hO2.ll (New.refl _) fun _ _ h => TL.new h (hN.next hN2)⟩
end Go.Proofs.Ytmpaheaedaeakaa.pool
