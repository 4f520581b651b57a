/-
  The laws' own comparisons: lists of bytes, lists of such lists.
-/
import Derived.Test.YtjmjnodaohbpfaaProg
import Derived.Test.YtjmjnodaohbpfaaRow
namespace Go.Proofs.Ytjmjnodaohbpfaa.lists
open Go.ChangeShapes Go.WideShapes Go.ChangeAt Go.RowKit Go.Proofs.Ytjmjnodaohbpfaa.kit Go.Deep
set_option linter.unusedVariables false
theorem sameBytes_eq (A B : Option Addr) (n c d : Nat) (Y Z : Nat → Int) (w : World) (hY : RdI .u8 w A n Y) (hZ : RdI .u8 w B n Z) (he : ∀ i, i < n → Y i = Z i) :
    Calls Try.prog 20 #[.slice A n c, .slice B n d] w fun e w' => e = .returned (.bool true) ∧ New w w' := by
  have hm := hY.1
  unfold maxLen at hm
  have he1 := Lib.hid he
  clear he
  go_enter Try.func20, Try.ntmps20
  go_wp2
  go_loopw [5] (fun k wr => ∃ i : Nat, k = .int .i64 i ∧ i ≤ n ∧ New w wr) (fun k _ => n - (intOf k).toNat)
  case atStart => exact ⟨0, rfl, by omega, New.refl w⟩
  case round =>
    obtain ⟨i, rfl, hi, hnw⟩ := hrel
    by_cases hlt : i < n
    · obtain ⟨b, off, rfl, hb, hcs⟩ := hY.2 (by omega)
      obtain ⟨b', off', rfl, hb', hcs'⟩ := hZ.2 (by omega)
      have c0 := (hnw.cell hb).trans (hcs i hlt)
      have c1 := (hnw.cell hb').trans (hcs' i hlt)
      have he := he1.out i hlt
      clear hcs hcs'
      go_wp2
      go_quiet (fail)
      go_wp2
      go_roundw
      case rel => exact ⟨i + 1, by go_num, by omega, hnw.drewN _⟩
      case measure => simp [intOf]; omega
    · have hin : i = n := by omega
      subst hin
      go_wp2
      go_ret
      exact ⟨rfl, hnw⟩
theorem sameLists_eq (A B : Option Addr) (n c d : Nat) (R R' : Nat → Option Addr) (L L' C C' : Nat → Nat) (Y Z : Nat → Nat → Int) (w : World) (hY : RdM .u8 w A n R L C Y) (hZ : RdM .u8 w B n R' L' C' Z)
    (he : ∀ i, i < n → L i = L' i ∧ ∀ j, j < L i → Y i j = Z i j) :
    Calls Try.prog 12 #[.slice A n c, .slice B n d] w fun e w' => e = .returned (.bool true) ∧ New w w' := by
  have hm := hY.1
  unfold maxLen at hm
  have he1 := Lib.hid he
  have hY1 := Lib.hid hY
  have hZ1 := Lib.hid hZ
  clear he hY hZ
  go_enter Try.func12, Try.ntmps12
  go_wp2
  go_loopw [5] (fun k wr => ∃ i : Nat, k = .int .i64 i ∧ i ≤ n ∧ New w wr) (fun k _ => n - (intOf k).toNat)
  case atStart => exact ⟨0, rfl, by omega, New.refl w⟩
  case round =>
    obtain ⟨i, rfl, hi, hnw⟩ := hrel
    by_cases hlt : i < n
    · obtain ⟨b, off, rfl, hb, hcs⟩ := hY1.out.2.1 (by omega)
      obtain ⟨b', off', rfl, hb', hcs'⟩ := hZ1.out.2.1 (by omega)
      have c0 := (hnw.cell hb).trans (hcs i hlt)
      have c1 := (hnw.cell hb').trans (hcs' i hlt)
      have r0 := Lib.hid ((hY1.out.2.2 i hlt).1.new hnw)
      have r1 := Lib.hid ((hZ1.out.2.2 i hlt).1.new hnw)
      obtain ⟨hl, hv⟩ := he1.out i hlt
      have hv1 := Lib.hid hv
      rw [← hl] at c1 r1
      have hnw1 := Lib.hid hnw
      clear hcs hcs' hl hv hnw
      have k0 := NewW.keep c0
      have k1 := NewW.keep c1
      have hs : Hid (∀ w', New wr w' → Calls Try.prog 20 #[.slice (R i) (L i) (C i), .slice (R' i) (L i) (C' i)] w' fun e w'' => e = .returned (.bool true) ∧ New w' w'') := fun w' hn => sameBytes_eq _ _ _ _ _ _ _ _ (r0.out.new hn) (r1.out.new hn) hv1.out
      have a1 : (i : Int) < (n : Int) := by omega
      have a3 : (0 : Int) ≤ (i : Int) := by omega
      go_wp2
      (refine wp_region_quiet_new (by kernel_rfl) (by kernel_rfl) ?_; (repeat (first | go_big_quiet_step (first | (go_at_call 20; exact NewW.call _ (hs.out _ (NewW.is _)))) | quiet_step (first | (go_at_call 20; exact NewW.call _ (hs.out _ (NewW.is _)))))); refine wpQuiet_nil ?_; rintro W2 ⟨⟨_, hn_W2⟩, rfl⟩)
      go_wp2
      go_roundw
      case rel => exact ⟨i + 1, by go_num, by omega, hnw1.out.next hn_W2⟩
      case measure => simp [intOf]; omega
    · have hin : i = n := by omega
      subst hin
      go_wp2
      go_ret
      exact ⟨rfl, hnw⟩
end Go.Proofs.Ytjmjnodaohbpfaa.lists
