/-
  Contracts of the reference's closures that pick a line's word, and the number that it spells.
-/
import Derived.Test.YtaommipcdcncnaaDoorDeskUndeci
import Derived.Test.YtaommipcdcncnaaDoorDeskPieces
namespace Go.Proofs.YtaommipcdcncnaaDoor.desk
open Go.ChangeShapes Go.WideShapes Go.ChangeAt Go.RowKit Go.Proofs.YtaommipcdcncnaaDoor.kit Go.Deep
set_option linter.unusedVariables false
set_option maxRecDepth 100000
theorem at_any (i : Nat) (hi : i < 100) (g H n c : Nat) (P : List Tx) (hn : n = P.length) (w : World) (hc : w.cell? ⟨g, 0, none⟩ = some (.slice (some ⟨H, 0, none⟩) n c)) (hH : ∀ i, i < n → w.cell? ⟨H, i, none⟩ = some (encStr (P.getD i []))) :
    Calls Tryd.prog 34 #[.int .i64 (i : Nat), .pointer (some ⟨g, 0, none⟩)] w fun e w' => e = .returned (encStr (P.getD i [])) ∧ w = w' := by
  obtain ⟨x, hx⟩ : ∃ x, Hid (x = P.getD i []) := ⟨_, rfl⟩
  rw [← hx.out]
  by_cases hlt : i < n
  · have hil : (i : Int) < (n : Int) := by omega
    have h0 := hH i hlt
    rw [← hx.out] at h0
    clear hH hn
    go_enter Tryd.func34, Tryd.ntmps34
    go_wp2
    exact bodyPost_ret (v := encStr x) (by simp [results, Tryd.results34, go_sem]) rfl ⟨rfl, rfl⟩
  · have hil : ¬ (i : Int) < (n : Int) := by omega
    have hxe : x = [] := by
      rw [hx.out, List.getD, List.getElem?_eq_none (by omega)]
      rfl
    subst hxe
    clear hH hn
    go_enter Tryd.func34, Tryd.ntmps34
    go_wp2
    exact bodyPost_ret (v := encStr []) (by simp [results, Tryd.results34, go_sem]) rfl ⟨rfl, rfl⟩
theorem num_any (i : Nat) (hi : i < 100) (g H n c a : Nat) (P : List Tx) (hn : n = P.length) (hl : ∀ i, (P.getD i []).length ≤ 1048576) (w : World) (ha : w.cell? ⟨a, 0, none⟩ = some (.func (.func 34) #[] #[.pointer (some ⟨g, 0, none⟩)])) (hc : w.cell? ⟨g, 0, none⟩ = some (.slice (some ⟨H, 0, none⟩) n c)) (hH : ∀ i, i < n → w.cell? ⟨H, i, none⟩ = some (encStr (P.getD i []))) :
    Calls Tryd.prog 35 #[.int .i64 (i : Nat), .pointer (some ⟨a, 0, none⟩)] w fun e w' => ∃ m b, e = .returned (.int .i64 m) ∧ NumP (P.getD i []) m b ∧ New w w' := by
  have h1 := Lib.hid (at_any i hi g H n c P hn w hc hH)
  have h2 := Lib.hid (undeci_any (P.getD i []) (hl i) w)
  obtain ⟨x, hx⟩ : ∃ x, Hid (x = P.getD i []) := ⟨_, rfl⟩
  rw [← hx.out] at h1 h2 ⊢
  clear hc hH hn hl
  go_enter Tryd.func35, Tryd.ntmps35
  go_wp2_with (first
  | (go_at_call 34; refine h1.out.mono ?_; rintro e w9 ⟨rfl, rfl⟩)
  | (go_at_call 36; refine h2.out.mono ?_; rintro e w2 ⟨m, b, rfl, hP, hn2⟩; have hP := Lib.hid hP; have hn2 := Lib.hid hn2))
  exact bodyPost_ret (v := .int .i64 m) (by simp [results, Tryd.results35, go_sem]) rfl ⟨m, b, rfl, hP.out, hn2.out⟩
end Go.Proofs.YtaommipcdcncnaaDoor.desk
