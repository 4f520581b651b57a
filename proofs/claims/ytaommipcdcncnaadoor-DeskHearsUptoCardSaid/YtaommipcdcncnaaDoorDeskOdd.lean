/-
  Names that an answer's line cannot bear: contracts of the closure, of slices.ContainsFunc over it.
-/
import Derived.Test.YtaommipcdcncnaaDoorDeskNames
namespace Go.Proofs.YtaommipcdcncnaaDoor.desk
open Go.ChangeShapes Go.WideShapes Go.ChangeAt Go.RowKit Go.Proofs.YtaommipcdcncnaaDoor.kit Go.Deep
set_option linter.unusedVariables false
set_option maxRecDepth 100000
def oddN (s : Nm) : Bool := !goodN s || (s == [100, 111, 110, 101])
/-- texts, read in memory -/
def RdS (w : World) (A : Option Addr) (l : List Nm) : Prop := l.length ≤ 1048576 ∧ (0 < l.length → ∃ g off, A = some ⟨g, off, none⟩ ∧ g < w.heap.size ∧ ∀ i, i < l.length → w.cell? ⟨g, off + i, none⟩ = some (encStr (l.getD i []))) ∧ ∀ s, s ∈ l → s.length ≤ 1048576
theorem RdS.new {w w' : World} {A : Option Addr} {l : List Nm} (h : RdS w A l) (hn : New w w') : RdS w' A l :=
  ⟨h.1, fun h0 => by
    obtain ⟨g, off, hA, hg, hc⟩ := h.2.1 h0
    exact ⟨g, off, hA, Nat.lt_of_lt_of_le hg hn.size, fun i hi => (hn.cell (p := ⟨g, off + i, none⟩) hg).trans (hc i hi)⟩, h.2.2⟩
theorem getD_mem {l : List Nm} {i : Nat} (h : i < l.length) : l.getD i [] ∈ l := by
  rw [List.getD, List.getElem?_eq_getElem h]
  exact List.getElem_mem h
theorem odd_any (s : Nm) (hs : s.length ≤ 1048576) (w : World) : Calls Tryd.prog 17 #[encStr s] w fun e w' => e = .returned (.bool (oddN s)) ∧ New w w' := by
  have hN := Lib.hid (Name_any s (by unfold maxLen; omega) w)
  obtain ⟨b, hb⟩ : ∃ b, Hid (b = goodN s) := ⟨_, rfl⟩
  have ho : Hid (oddN s = (!b || (s == [100, 111, 110, 101]))) := by show _ = _; unfold oddN; rw [hb.out]
  rw [← hb.out] at hN
  clear hb
  go_enter Tryd.func17, Tryd.ntmps17
  cases b
  · go_wp2_with (go_at_call 18; refine hN.out.mono ?_; rintro e w2 ⟨rfl, hn2⟩; have hn2 := Lib.hid hn2)
    exact bodyPost_ret (v := .bool true) (by simp [results, Tryd.results17, go_sem]) rfl ⟨by rw [ho.out]; rfl, hn2.out⟩
  · go_wp2_with (go_at_call 18; refine hN.out.mono ?_; rintro e w2 ⟨rfl, hn2⟩; have hn2 := Lib.hid hn2)
    exact bodyPost_ret (v := .bool (s == [100, 111, 110, 101])) (by simp [results, Tryd.results17, go_sem]) rfl ⟨by rw [ho.out]; rfl, hn2.out⟩
theorem IndexFunc_any (A : Option Addr) (c : Nat) (l : List Nm) (w : World) (h : RdS w A l) :
    Calls Tryd.prog 41 #[.slice A l.length c, .func (.func 17) #[] #[]] w fun e w' => ∃ p : Int, e = .returned (.int .i64 p) ∧ ((p = -1 ∧ l.any oddN = false) ∨ (0 ≤ p ∧ l.any oddN = true)) ∧ New w w' := by
  have hH := Lib.hid h
  have hml := h.1
  obtain ⟨n, hnl⟩ : ∃ n, Hid (n = l.length) := ⟨_, rfl⟩
  have hrd : Hid (0 < n → ∃ g off, A = some ⟨g, off, none⟩ ∧ g < w.heap.size ∧ ∀ i, i < n → w.cell? ⟨g, off + i, none⟩ = some (encStr (l.getD i []))) := by
    rw [hnl.out]
    exact h.2.1
  rw [← hnl.out] at hml ⊢
  obtain ⟨bb, hbb⟩ : ∃ bb, Hid (bb = l.any oddN) := ⟨_, rfl⟩
  rw [← hbb.out]
  have hfin : Hid ((∀ j, j < n → oddN (l.getD j []) = false) → bb = false) := by
    intro h
    rw [hbb.out]
    rw [List.any_eq_false]
    intro s hs
    obtain ⟨j, hj⟩ := List.mem_iff_getElem?.1 hs
    have hjn : j < n := by rw [hnl.out]; exact (List.getElem?_eq_some_iff.1 hj).1
    have := h j hjn
    rw [List.getD, hj] at this
    simpa using this
  have hodd : Hid (∀ j, j < n → ∀ w', Calls Tryd.prog 17 #[encStr (l.getD j [])] w' fun e w'' => e = .returned (.bool (oddN (l.getD j []))) ∧ New w' w'') := fun j hj w' => odd_any _ (hH.out.2.2 _ (getD_mem (by rw [← hnl.out]; exact hj))) w'
  clear h
  go_enter Tryd.func41, Tryd.ntmps41
  go_wp2_with fail
  go_loopw [8] (fun x wr => ∃ i : Nat, x = .int .i64 (i : Nat) ∧ i ≤ n ∧ Hid (∀ j, j < i → oddN (l.getD j []) = false) ∧ Hid (New w wr)) (fun x _ => n - (intOf x).toNat)
  case atStart => exact ⟨0, rfl, Nat.zero_le _, Lib.hid (fun j hj => absurd hj (Nat.not_lt_zero j)), Lib.hid (New.refl _)⟩
  case round =>
    obtain ⟨i, rfl, hi, hno, hN⟩ := hrel
    by_cases hlt : i < n
    · obtain ⟨g, off, rfl, hg, hc⟩ := hrd.out (by omega)
      have e0 := (hN.out.cell (p := ⟨g, off + i, none⟩) hg).trans (hc i hlt)
      have hil : (i : Int) < (n : Int) := by omega
      have hoi := Lib.hid (hodd.out i hlt wr)
      obtain ⟨y, hy⟩ : ∃ y, Hid (y = l.getD i []) := ⟨_, rfl⟩
      rw [← hy.out] at e0 hoi
      clear hc
      cases hyo : oddN y
      · have hyH := Lib.hid hyo
        rw [hyo] at hoi
        clear hyo
        go_wp2_with (go_at_call 17; refine hoi.out.mono ?_; rintro e w2 ⟨rfl, hn2⟩; have hn2 := Lib.hid hn2)
        go_roundw
        case rel =>
          refine ⟨i + 1, by go_num, by omega, Lib.hid (fun j hj => ?_), hN.out.next hn2.out⟩
          by_cases e : j = i
          · subst e
            rw [← hy.out]
            exact hyH.out
          · exact hno.out j (by omega)
        case measure => simp [intOf]; omega
      · have hyes : Hid (bb = true) := by
          show _ = true
          rw [hbb.out, List.any_eq_true]
          exact ⟨y, by rw [hy.out]; exact getD_mem (by rw [← hnl.out]; exact hlt), hyo⟩
        rw [hyo] at hoi
        clear hyo
        go_wp2_with (go_at_call 17; refine hoi.out.mono ?_; rintro e w2 ⟨rfl, hn2⟩; have hn2 := Lib.hid hn2)
        exact bodyPost_ret (v := .int .i64 (i : Nat)) (by simp [results, Tryd.results41, go_sem]) rfl ⟨_, rfl, .inr ⟨by omega, hyes.out⟩, hN.out.next hn2.out⟩
    · have hin : n = i := by omega
      have hil : ¬ (i : Int) < (n : Int) := by omega
      subst hin
      have hz : Hid (bb = false) := hfin.out hno.out
      go_wp2
      exact bodyPost_ret (v := .int .i64 (-1)) (by simp [results, Tryd.results41, go_sem]) rfl ⟨_, rfl, .inl ⟨rfl, hz.out⟩, hN.out⟩
theorem Contains_any (A : Option Addr) (c : Nat) (l : List Nm) (w : World) (h : RdS w A l) :
    Calls Tryd.prog 19 #[.slice A l.length c, .func (.func 17) #[] #[]] w fun e w' => e = .returned (.bool (l.any oddN)) ∧ New w w' := by
  have hI := Lib.hid (IndexFunc_any A c l w h)
  obtain ⟨b, hb⟩ : ∃ b, Hid (b = l.any oddN) := ⟨_, rfl⟩
  rw [← hb.out] at hI ⊢
  generalize l.length = n at hI ⊢
  clear h hb
  go_enter Tryd.func19, Tryd.ntmps19
  go_wp2_with (go_at_call 41; refine hI.out.mono ?_; rintro e w2 ⟨p, rfl, hp, hn2⟩; have hp := Lib.hid hp; have hn2 := Lib.hid hn2)
  refine bodyPost_ret (v := .bool (decide (0 ≤ p))) (by simp [results, Tryd.results19, go_sem]) rfl ⟨?_, hn2.out⟩
  rcases hp.out with ⟨h1, h2⟩ | ⟨h1, h2⟩
  · rw [h2, h1]
    rfl
  · rw [h2, decide_eq_true h1]
end Go.Proofs.YtaommipcdcncnaaDoor.desk
