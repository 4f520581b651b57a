/-
  Contract of slices.IndexFunc at snapshots.
-/
import Derived.Test.YtiffgeglbafenaaSnapKeep
namespace Go.Proofs.Ytiffgeglbafenaa.snap
open Go.ChangeShapes Go.WideShapes Go.ChangeAt Go.RowKit Go.Proofs.Ytiffgeglbafenaa.kit Go.Deep
set_option linter.unusedVariables false
set_option maxRecDepth 100000
theorem find_at {N : Nat → Nat} {z : Int} : ∀ {m i : Nat}, i < m → find N z (i + 1) = some i → find N z m = some i
  | 0, i, h, _ => absurd h (Nat.not_lt_zero i)
  | m + 1, i, h, he => by
    by_cases e : i = m
    · subst e; exact he
    · have := find_at (m := m) (by omega) he
      unfold find
      rw [this]
theorem is_any (x y : Int) (d : Value) (p : Nat) (z : Int) (w : World) (hp : w.cell? ⟨p, 0, none⟩ = some (.int .i64 z)) :
    Calls Try.prog 29 #[.agg #[.int .i64 x, .int .i64 y, d], ptr p] w fun e w' => e = .returned (.bool (x == z)) ∧ New w w' := by
  have hlt := lt_of_cell hp
  have hp1 := (((New.refl w).alloc (.cells #[.int .i64 x, .int .i64 y, d] 72)).cell hlt).trans hp
  have hn := Lib.hid ((New.refl w).alloc (.cells #[.int .i64 x, .int .i64 y, d] 72))
  go_enter Try.func29, Try.ntmps29
  go_wp2
  go_ret
  exact ⟨rfl, hn.out⟩
def idxI (o : Option Nat) : Int := match o with | some i => (i : Int) | none => -1
theorem Index_any (A : Option Addr) (m c : Nat) (N M : Nat → Nat) (dv : Nat → Value) (p : Nat) (z : Int) (w : World) (hm : m ≤ 9) (hA : 0 < m → ∃ g, A = some ⟨g, 0, none⟩ ∧ g < w.heap.size)
    (hc : ∀ g, A = some ⟨g, 0, none⟩ → ∀ j u, (tripL (fun i => .int .i64 (N i : Nat)) (fun i => .int .i64 (M i : Nat)) dv m)[j]? = some u → w.cell? ⟨g, j, none⟩ = some u) (hp : w.cell? ⟨p, 0, none⟩ = some (.int .i64 z)) :
    Calls Try.prog 28 #[.slice A m c, .func (.func 29) #[] #[ptr p]] w fun e w' => e = .returned (.int .i64 (idxI (find N z m))) ∧ New w w' := by
  have hAH := Lib.hid hA
  have hcH := Lib.hid hc
  have hplt := lt_of_cell hp
  have hpH := Lib.hid hp
  clear hA hc hp
  go_enter Try.func28, Try.ntmps28
  go_wp2
  go_loopw [8] (fun x wr => ∃ i : Nat, x = .int .i64 i ∧ i ≤ m ∧ Hid (find N z i = none) ∧ Hid (New w wr)) (fun x _ => m - (intOf x).toNat)
  case atStart => exact ⟨0, rfl, by omega, rfl, New.refl w⟩
  case round =>
    obtain ⟨i, rfl, hi, hf, hn⟩ := hrel
    by_cases hlt : i < m
    · obtain ⟨g, rfl, hg⟩ := hAH.out (by omega)
      obtain ⟨t0, t1, t2⟩ := tripL_at (fun i => .int .i64 (N i : Nat)) (fun i => .int .i64 (M i : Nat)) dv m i hlt
      have c0 := (hn.out.cell (p := ⟨g, i * 3, none⟩) hg).trans (hcH.out g rfl _ _ t0)
      have c1 := (hn.out.cell (p := ⟨g, i * 3 + 1, none⟩) hg).trans (hcH.out g rfl _ _ t1)
      have c2 := (hn.out.cell (p := ⟨g, i * 3 + 2, none⟩) hg).trans (hcH.out g rfl _ _ t2)
      have hp' := (hn.out.cell (p := ⟨p, 0, none⟩) hplt).trans hpH.out
      have hs : Hid (find N z (i + 1) = if (N i : Int) = z then some i else none) := by
        show _ = _
        show (match find N z i with | some i => some i | none => if (N i : Int) = z then some i else none) = _
        rw [hf.out]
      clear t0 t1 t2
      by_cases he : (N i : Int) = z
      · have hw : Hid (find N z m = some i) := by
          have h1 := hs.out
          rw [if_pos he] at h1
          exact find_at hlt h1
        go_wp2_with (go_at_call 29; refine (is_any _ _ _ p z _ hp').mono ?_; rintro e w2 ⟨rfl, hn2⟩; have heb : ((N i : Int) == z) = true := by simpa using he)
        go_ret
        exact ⟨by rw [hw.out]; rfl, hn.out.next hn2⟩
      · have hw : Hid (find N z (i + 1) = none) := by
          have h1 := hs.out
          rw [if_neg he] at h1
          exact h1
        go_wp2_with (go_at_call 29; refine (is_any _ _ _ p z _ hp').mono ?_; rintro e w2 ⟨rfl, hn2⟩; have heb : ((N i : Int) == z) = false := by simpa using he)
        go_roundw
        case rel => exact ⟨i + 1, by go_num, by omega, hw.out, hn.out.next hn2⟩
        case measure => simp [intOf]; omega
    · have him : m = i := by omega
      subst him
      go_wp2
      go_ret
      exact ⟨by rw [hf.out]; rfl, hn.out⟩
end Go.Proofs.Ytiffgeglbafenaa.snap
