/-
  Contracts of the search for a word: Read's closure, slices.IndexFunc over it and the table of words.
-/
import Derived.Test.YtaommipcdcncnaaDoorDeskWords
namespace Go.Proofs.YtaommipcdcncnaaDoor.desk
open Go.ChangeShapes Go.WideShapes Go.ChangeAt Go.RowKit Go.Proofs.YtaommipcdcncnaaDoor.kit Go.Deep
set_option linter.unusedVariables false
set_option maxRecDepth 100000
theorem read1_any (a b p0 : Tx) (g h n : Nat) (hn : 0 < n) (w : World) (hc : w.cell? ⟨g, 0, none⟩ = some (.slice (some ⟨h, 0, none⟩) n n)) (hp : w.cell? ⟨h, 0, none⟩ = some (encStr p0)) :
    Calls Tryd.prog 30 #[.agg #[encStr a, encStr b], .pointer (some ⟨g, 0, none⟩)] w fun e w' => e = .returned (.bool (a == p0)) ∧ New w w' := by
  obtain ⟨W1, hW1⟩ : ∃ W1, W1 = w.alloc (.cells #[encStr a, encStr b] 45) := ⟨_, rfl⟩
  have hN1 : Hid (New w W1) := by show New _ _; rw [hW1]; exact (New.refl w).alloc _
  have hb1 : Hid (Blk W1 w.heap.size 45 #[encStr a, encStr b]) := by show Blk _ _ _ _; rw [hW1]; exact Blk.fresh _ _ _
  have x0 := hb1.out.cell 0
  simp at x0
  have x1 := (hN1.out.cell (lt_of_cell hc)).trans hc
  have x2 := (hN1.out.cell (lt_of_cell hp)).trans hp
  have hni : (0 : Int) < (n : Int) := by omega
  clear hc hp
  go_enter Tryd.func30, Tryd.ntmps30
  go_upto_region 1 with fail
  rw [← hW1]
  clear hW1
  go_quiet (fail)
  go_wp2
  exact bodyPost_ret (v := .bool (a == p0)) (by simp [results, Tryd.results30, go_sem]) rfl ⟨rfl, hN1.out.drewN _⟩
/-- the place of the first word that is this one -/
def FindP (p0 : Tx) (p : Int) : Prop := (p = -1 ∧ ∀ i, i < 19 → (wordK i).1 ≠ p0) ∨ ∃ i : Nat, i < 19 ∧ p = (i : Int) ∧ (wordK i).1 = p0
theorem find_any (p0 : Tx) (g h n : Nat) (hn : 0 < n) (w : World) (hW : WordsIs w) (hc : w.cell? ⟨g, 0, none⟩ = some (.slice (some ⟨h, 0, none⟩) n n)) (hp : w.cell? ⟨h, 0, none⟩ = some (encStr p0)) :
    Calls Tryd.prog 29 #[.slice (some ⟨0, 0, none⟩) 19 19, .func (.func 30) #[] #[.pointer (some ⟨g, 0, none⟩)]] w fun e w' => ∃ p, e = .returned (.int .i64 p) ∧ FindP p0 p ∧ New w w' := by
  have hWH := Lib.hid hW
  have h1 : Hid (∀ (a b : Tx) (w' : World), New w w' → Calls Tryd.prog 30 #[.agg #[encStr a, encStr b], .pointer (some ⟨g, 0, none⟩)] w' fun e w'' => e = .returned (.bool (a == p0)) ∧ New w' w'') := fun a b w' hn' => read1_any a b p0 g h n hn w' ((hn'.cell (lt_of_cell hc)).trans hc) ((hn'.cell (lt_of_cell hp)).trans hp)
  clear hW hc hp hn
  go_enter Tryd.func29, Tryd.ntmps29
  go_wp2_with fail
  go_loopw [8] (fun x wr => ∃ i : Nat, x = .int .i64 (i : Nat) ∧ i ≤ 19 ∧ Hid (∀ j, j < i → (wordK j).1 ≠ p0) ∧ Hid (New w wr)) (fun x _ => 19 - (intOf x).toNat)
  case atStart => exact ⟨0, rfl, Nat.zero_le _, Lib.hid (fun j hj => absurd hj (Nat.not_lt_zero j)), Lib.hid (New.refl _)⟩
  case round =>
    obtain ⟨i, rfl, hi, hno, hN⟩ := hrel
    by_cases hlt : i < 19
    · obtain ⟨e0, e1⟩ := hWH.out i hlt
      have e0 := (hN.out.cell (lt_of_cell e0)).trans e0
      have e1 := (hN.out.cell (lt_of_cell e1)).trans e1
      have hil : (i : Int) < 19 := by omega
      obtain ⟨x, hx⟩ : ∃ x, Hid (x = (wordK i).1) := ⟨_, rfl⟩
      obtain ⟨y, hy⟩ : ∃ y, Hid (y = (wordK i).2) := ⟨_, rfl⟩
      rw [← hx.out] at e0
      rw [← hy.out] at e1
      have hoi := Lib.hid (h1.out x y wr hN.out)
      cases hyo : (x == p0)
      · have hyH := Lib.hid hyo
        rw [hyo] at hoi
        clear hyo
        go_wp2_with (go_at_call 30; refine hoi.out.mono ?_; rintro e w2 ⟨rfl, hn2⟩; have hn2 := Lib.hid hn2)
        go_roundw
        case rel =>
          refine ⟨i + 1, by go_num, by omega, Lib.hid (fun j hj => ?_), hN.out.next hn2.out⟩
          by_cases e : j = i
          · subst e
            rw [← hx.out]
            intro e
            have := hyH.out
            rw [e] at this
            simp at this
          · exact hno.out j (by omega)
        case measure => simp [intOf]; omega
      · have hyes : Hid (FindP p0 (i : Int)) := .inr ⟨i, hlt, rfl, by rw [← hx.out]; exact beq_iff_eq.1 hyo⟩
        rw [hyo] at hoi
        clear hyo
        go_wp2_with (go_at_call 30; refine hoi.out.mono ?_; rintro e w2 ⟨rfl, hn2⟩; have hn2 := Lib.hid hn2)
        exact bodyPost_ret (v := .int .i64 (i : Nat)) (by simp [results, Tryd.results29, go_sem]) rfl ⟨_, rfl, hyes.out, hN.out.next hn2.out⟩
    · have hin : i = 19 := by omega
      subst hin
      have hz : Hid (FindP p0 (-1)) := .inl ⟨rfl, hno.out⟩
      go_wp2
      exact bodyPost_ret (v := .int .i64 (-1)) (by simp [results, Tryd.results29, go_sem]) rfl ⟨_, rfl, hz.out, hN.out⟩
end Go.Proofs.YtaommipcdcncnaaDoor.desk
