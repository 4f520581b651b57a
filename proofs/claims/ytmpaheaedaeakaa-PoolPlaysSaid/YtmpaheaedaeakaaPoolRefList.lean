/-
  The reference's withoutThing, withThing.
-/
import Derived.Test.YtmpaheaedaeakaaPoolRefMem
import Derived.Sort.Walk0
namespace Go.Proofs.Ytmpaheaedaeakaa.pool
open Go.ChangeShapes Go.WideShapes Go.ChangeAt Go.RowKit Go.Proofs.Ytmpaheaedaeakaa.kit Go.Deep Go.Maps
set_option linter.unusedVariables false
set_option maxRecDepth 100000
theorem infoThing : (Try.prog.info? 64).map (fun i => (i.zero, i.size, i.bytes)) = some (some (.agg #[encStr [], .slice none 0 0]), 2, 40) := by kernel_rfl
theorem infoShotR : (Try.prog.info? 60).map (fun i => (i.zero, i.size, i.bytes)) = some (some (.agg #[encStr [], .slice none 0 0]), 2, 40) := by kernel_rfl
section
variable {α : Type} [Inhabited α]
def lsL (l : List (Nm × α)) (U : Nat → Value) : List Value := (List.range l.length).flatMap fun i => [encStr (nth l i).1, U i]
theorem lsL_len (l : List (Nm × α)) (U : Nat → Value) : (lsL l U).length = l.length * 2 := by
  have key : ∀ n, ((List.range n).flatMap fun i => [encStr (nth l i).1, U i]).length = n * 2 := by
    intro n
    induction n with
    | zero => rfl
    | succ n ih => rw [List.range_succ, List.flatMap_append, List.length_append, ih]; simp; omega
  exact key _
theorem lsL_at (l : List (Nm × α)) (U : Nat → Value) {i : Nat} (h : i < l.length) : (lsL l U)[i * 2]? = some (encStr (nth l i).1) ∧ (lsL l U)[i * 2 + 1]? = some (U i) := by
  have key : ∀ n i, i < n → ((List.range n).flatMap fun i => [encStr (nth l i).1, U i])[i * 2]? = some (encStr (nth l i).1) ∧ ((List.range n).flatMap fun i => [encStr (nth l i).1, U i])[i * 2 + 1]? = some (U i) := by
    intro n
    induction n with
    | zero => intro i h; exact absurd h (Nat.not_lt_zero i)
    | succ n ih =>
      intro i h
      have hl : ((List.range n).flatMap fun i => [encStr (nth l i).1, U i]).length = n * 2 := by
        clear ih h
        induction n with
        | zero => rfl
        | succ n ih => rw [List.range_succ, List.flatMap_append, List.length_append, ih]; simp; omega
      rw [List.range_succ, List.flatMap_append]
      by_cases e : i < n
      · rw [List.getElem?_append_left (by omega), List.getElem?_append_left (by omega)]
        exact ih i e
      · have : i = n := by omega
        subst this
        rw [List.getElem?_append_right (by omega), List.getElem?_append_right (by omega), hl]
        simp
  exact key _ _ h
theorem nth_left {l : List (Nm × α)} {y : Nm × α} {i : Nat} (h : i < l.length) : nth (l ++ [y]) i = nth l i := by
  unfold nth
  rw [List.getD, List.getD, List.getElem?_append_left h]
theorem nth_last {l : List (Nm × α)} {y : Nm × α} : nth (l ++ [y]) l.length = y := by
  unfold nth
  rw [List.getD, List.getElem?_append_right (Nat.le_refl _)]
  simp
theorem lsL_more (l : List (Nm × α)) (U : Nat → Value) (y : Nm × α) (u : Value) : lsL (l ++ [y]) (fun i => if i = l.length then u else U i) = lsL l U ++ [encStr y.1, u] := by
  unfold lsL
  rw [List.length_append, List.length_singleton, List.range_succ, List.flatMap_append]
  congr 1
  · rw [List.flatMap_def, List.flatMap_def]
    congr 1
    apply List.map_congr_left
    intro i hi
    have hi := List.mem_range.1 hi
    rw [nth_left hi]
    dsimp only
    rw [if_neg (show i ≠ l.length by omega)]
  · simp [nth_last]
/-- a list of one's own -/
def OL (rd : Value → α → Prop) (base : Nat) (e : TypeId) (w : World) (v : Value) (l : List (Nm × α)) (U : Nat → Value) : Prop := w.ownsRow base e 2 v l.length (lsL l U) ∧ ∀ i, i < l.length → rd (U i) (nth l i).2 ∧ (U i).oneCell' = true
theorem OL.nil (rd : Value → α → Prop) (base : Nat) (e : TypeId) (w : World) (U : Nat → Value) : OL rd base e w (.slice none 0 0) [] U := ⟨World.ownsRow_nil _ _ _ _, fun i h => absurd h (Nat.not_lt_zero i)⟩
theorem OL.new {rd rd' : Value → α → Prop} {base : Nat} {e : TypeId} {w w' : World} {v : Value} {l : List (Nm × α)} {U : Nat → Value} (h : OL rd base e w v l U) (hn : New w w') (hr : ∀ v y, rd v y → rd' v y) : OL rd' base e w' v l U := ⟨own_new h.1 hn, fun i hi => ⟨hr _ _ (h.2 i hi).1, (h.2 i hi).2⟩⟩
theorem OL.push {rd rd' : Value → α → Prop} {base : Nat} {e : TypeId} {w w7 : World} {v v7 : Value} {l : List (Nm × α)} {U : Nat → Value} (h : OL rd base e w v l U) {y : Nm × α} {u : Value} (ho : w7.ownsRow base e 2 v7 (l.length + 1) (lsL l U ++ [encStr y.1, u])) (hr : ∀ v y, rd v y → rd' v y) (hu : rd' u y.2) (h1 : u.oneCell' = true) : OL rd' base e w7 v7 (l ++ [y]) (fun i => if i = l.length then u else U i) := by
  refine ⟨?_, fun i hi => ?_⟩
  · rw [lsL_more, List.length_append]
    exact ho
  · rw [List.length_append, List.length_singleton] at hi
    by_cases e : i = l.length
    · subst e
      rw [nth_last]
      simp only [if_true]
      exact ⟨hu, h1⟩
    · rw [nth_left (by omega)]
      dsimp only
      rw [if_neg e]
      exact ⟨hr _ _ (h.2 i (by omega)).1, (h.2 i (by omega)).2⟩
theorem OL.ll {rd : Value → α → Prop} {base : Nat} {e : TypeId} {w : World} {v : Value} {l : List (Nm × α)} {U : Nat → Value} (h : OL rd base e w v l U) : LL rd w v l := by
  obtain ⟨A, c, rfl, h1, h2, h3, h4⟩ := own_open h.1
  have hA : A = none → c = 0 := by
    intro e
    subst e
    rcases h.1.2 with ⟨h0, _⟩ | ⟨g, cap, cur, h0, _⟩
    · injection h0
    · injection h0 with h0; cases h0
  refine ⟨A, c, U, rfl, h1, h2, hA, fun h0 => ?_, h.2⟩
  obtain ⟨g, rfl, _, hg⟩ := h3 h0
  refine ⟨g, 0, rfl, hg, fun i hi => ?_⟩
  obtain ⟨q0, q1⟩ := lsL_at l U hi
  have r0 := h4 g rfl _ _ q0
  have r1 := h4 g rfl _ _ q1
  exact ⟨by simpa using r0, by simpa using r1⟩
end
theorem LL.form {α : Type} [Inhabited α] {rd : Value → α → Prop} {w : World} {v : Value} {l : List (Nm × α)} (h : LL rd w v l) : ∃ A c, v = .slice A l.length c := by
  obtain ⟨A, c, U, h, _⟩ := h
  exact ⟨A, c, h⟩
theorem Bs.form {w : World} {v : Value} {b : By} (h : Bs w v b) : ∃ A c, v = .slice A b.n c := by
  obtain ⟨A, c, h, _⟩ := h
  exact ⟨A, c, h⟩
theorem withoutThing_any (v : Value) (l : Ths) (x : Nm) (w : World) (h : TL w v l) (hl : l.length ≤ 100) :
    Calls Try.prog 32 #[v, encStr x] w fun e w' => ∃ u, e = .returned u ∧ TL w' u (del l x) ∧ New w w' := by
  obtain ⟨i0, hi0, hz0, hz1, hz2⟩ := info_parts infoThing
  obtain ⟨A, c, U, rfl, hc1, hc2, _, h5, h6⟩ := h
  have h6H := Lib.hid h6
  have hmo := Lib.hid (fun i h => del_more l x (i := i) h)
  obtain ⟨n, hn⟩ : ∃ n, Hid (n = l.length) := ⟨_, rfl⟩
  have hcell2 : Hid (0 < n → ∃ g off, A = some ⟨g, off, none⟩ ∧ g < w.heap.size ∧ ∀ i, i < n → w.cell? ⟨g, off + i * 2, none⟩ = some (encStr (nth l i).1) ∧ w.cell? ⟨g, off + i * 2 + 1, none⟩ = some (U i)) := by
    rw [hn.out]
    exact h5
  have hfin : Hid (del (l.take n) x = del l x) := by show _ = _; rw [hn.out, List.take_length]
  rw [← hn.out] at hc1 hl ⊢
  clear h5 h6
  go_enter Try.func32, Try.ntmps32
  go_wp2_with fail
  go_loopw [10, 5] (fun q ov wr => ∃ (i : Nat) (acc : Ths) (V : Nat → Value), q = .int .i64 (i : Nat) ∧ i ≤ n ∧ acc.length ≤ i ∧ Hid (acc = del (l.take i) x) ∧ Hid (OL (Bs wr) w.heap.size 64 wr ov acc V) ∧ Hid (New w wr)) (fun q _ _ => n - (intOf q).toNat)
  case atStart => exact ⟨0, [], fun _ => .slice none 0 0, rfl, Nat.zero_le _, Nat.le_refl _, Lib.hid rfl, OL.nil _ _ _ _ _, Lib.hid (New.refl _)⟩
  case round =>
    obtain ⟨i, acc, V, rfl, hi, hal, hacc, hO, hN⟩ := hrel
    by_cases hlt : i < n
    · obtain ⟨g, off, rfl, hg, hc⟩ := hcell2.out (by omega)
      obtain ⟨e0, e1⟩ := hc i hlt
      replace e0 := (hN.out.cell (p := ⟨g, off + i * 2, none⟩) hg).trans e0
      replace e1 := (hN.out.cell (p := ⟨g, off + i * 2 + 1, none⟩) hg).trans e1
      have hil : (i : Int) < (n : Int) := by omega
      have hmi := Lib.hid (hmo.out i (by have := hn.out; omega))
      obtain ⟨hb, h1⟩ := h6H.out i (by have := hn.out; omega)
      obtain ⟨Y, k, hY⟩ := hb.form
      have hbH := Lib.hid hb
      obtain ⟨yn, hyn⟩ : ∃ yn, Hid (yn = (nth l i).2.n) := ⟨_, rfl⟩
      rw [← hyn.out] at hY
      rw [hY] at e1 hbH
      obtain ⟨y, hy⟩ : ∃ y, Hid (y = (nth l i).1) := ⟨_, rfl⟩
      rw [← hy.out] at e0
      have hnz := hN.out.size
      clear hc hb h1 hY
      have hb2 : Blk (wr.alloc (.cells #[encStr y, .slice Y yn k] 64)) wr.heap.size 64 #[encStr y, .slice Y yn k] := Blk.fresh _ _ _
      have hn2 : New wr (wr.alloc (.cells #[encStr y, .slice Y yn k] 64)) := (New.refl wr).alloc _
      by_cases e : y = x
      · have hd : (y == x) = true := by simp [e]
        have hnx : Hid (del (l.take (i + 1)) x = acc) := by
          show _ = _
          rw [hmi.out, hacc.out, ← hy.out, if_pos e, List.append_nil]
        have hO2 : Hid (OL (Bs (wr.alloc (.cells #[encStr y, .slice Y yn k] 64))) w.heap.size 64 (wr.alloc (.cells #[encStr y, .slice Y yn k] 64)) u5 acc V) := OL.new hO.out hn2 fun _ _ hb => hb.new hn2
        have hN2 : Hid (New w (wr.alloc (.cells #[encStr y, .slice Y yn k] 64))) := hN.out.next hn2
        clear e hb2 hn2
        go_wp2
        go_roundw
        case rel => exact ⟨i + 1, acc, V, by go_num, by omega, by omega, Lib.hid hnx.out.symm, hO2, hN2⟩
        case measure => simp [intOf]; omega
      · have hd : (y == x) = false := by simp [e]
        have hnx : Hid (del (l.take (i + 1)) x = acc ++ [nth l i]) := by
          show _ = _
          rw [hmi.out, hacc.out, ← hy.out, if_neg e]
        obtain ⟨W2, hW2⟩ : ∃ W2, W2 = wr.alloc (.cells #[encStr y, .slice Y yn k] 64) := ⟨_, rfl⟩
        rw [← hW2] at hb2 hn2
        have q0 := hb2.cell 0
        have q1 := hb2.cell 1
        simp at q0 q1
        have hO2 := OL.new (rd' := Bs W2) hO.out hn2 fun _ _ hb => hb.new hn2
        have hO2H := Lib.hid hO2
        have hown := hO2.1
        have hn2H := Lib.hid hn2
        have hs2 := hn2.size
        clear e hb2 hn2 hO2
        go_upto_region 5 with fail
        rw [← hW2]
        clear hW2
        go_wp2_with (at_builtin; refine wpList_append_own _ rfl _ _ 39 rfl w.heap.size 64 i0 _ 2 40 Try.underlying39 hi0 hz0 hz1 hz2 rfl (by decide) u5 acc.length (lsL acc V) rfl (hown.alloc _) ⟨W2.heap.size, 0, none⟩ 1 1 [encStr y, .slice Y yn k] rfl rfl (World.news_of_block (cs := #[.string _, .slice _ _ _]) (t := 64) (fr := (0, 0)) (heap_alloc_new W2 _)) (by simp [Value.oneCell']) (by unfold maxLen; omega) (by omega) (by simp; omega) ?_; intro v6 w6 hown6 hgr6 hnil6)
        have hfin6 : Hid (OL (Bs w6) w.heap.size 64 w6 v6 (acc ++ [nth l i]) (fun j => if j = acc.length then .slice Y yn k else V j) ∧ New w w6) := by
          have ha : New W2 (W2.alloc (.cells #[encStr y, .slice Y yn k] 64)) := (New.refl W2).alloc _
          have hne : ∀ g cs, Blk (W2.alloc (.cells #[encStr y, .slice Y yn k] 64)) g 5 cs → u5.ownBlock ≠ some g := fun g cs hb => own_ne_blk (hown.alloc _) hb (by decide)
          have hb6 : ∀ v b, Bs W2 v b → Bs w6 v b := fun v b hb => (hb.new ha).grown hgr6 hne
          refine ⟨OL.push (rd' := Bs w6) hO2H.out (y := nth l i) (u := .slice Y yn k) (by rw [← hy.out]; exact hown6) hb6 (hb6 _ _ (hbH.out.new (hN.out.next hn2H.out))) rfl, ?_⟩
          exact ((hN.out.next hn2H.out).next ha).grown hgr6 fun r e => (hown.lt r e).1
        clear hown6 hgr6 hnil6 hown
        go_wp2
        go_roundw
        case rel => exact ⟨i + 1, acc ++ [nth l i], _, by go_num, by omega, by rw [List.length_append, List.length_singleton]; omega, Lib.hid hnx.out.symm, Lib.hid hfin6.out.1, Lib.hid hfin6.out.2⟩
        case measure => simp [intOf]; omega
    · have him : n = i := by omega
      subst him
      have hz : Hid (TL wr u5 (del l x)) := by
        show TL _ _ _
        rw [← hfin.out, ← hacc.out]
        exact hO.out.ll
      clear hO hacc
      go_wp2
      exact bodyPost_ret (v := u5) (by simp [results, Try.results32, go_sem]) rfl ⟨_, rfl, hz.out, hN.out⟩
end Go.Proofs.Ytmpaheaedaeakaa.pool
