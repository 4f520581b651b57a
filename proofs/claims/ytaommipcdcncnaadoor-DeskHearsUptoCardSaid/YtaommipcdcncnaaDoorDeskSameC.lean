/-
  The laws' own comparisons: bytes, commands.
-/
import Derived.Test.YtaommipcdcncnaaDoorDeskCand
import Derived.Test.YtaommipcdcncnaaDoorRow
namespace Go.Proofs.YtaommipcdcncnaaDoor.desk
open Go.ChangeShapes Go.WideShapes Go.ChangeAt Go.RowKit Go.Proofs.YtaommipcdcncnaaDoor.kit Go.Deep
set_option linter.unusedVariables false
set_option maxRecDepth 100000
theorem sameBytes_eq (A B : Option Addr) (n c d : Nat) (Y Z : Nat → Int) (w : World) (hY : RdI .u8 w A n Y) (hZ : RdI .u8 w B n Z) (he : ∀ i, i < n → Y i = Z i) :
    Calls Tryd.prog 38 #[.slice A n c, .slice B n d] w fun e w' => e = .returned (.bool true) ∧ New w w' := by
  have hm := hY.1
  unfold maxLen at hm
  have he1 := Lib.hid he
  clear he
  go_enter Tryd.func38, Tryd.ntmps38
  go_wp2
  go_loopw [5] (fun k wr => ∃ i : Nat, k = .int .i64 i ∧ i ≤ n ∧ New w wr) (fun k _ => n - (intOf k).toNat)
  case atStart => exact ⟨0, rfl, by omega, New.refl w⟩
  case round =>
    obtain ⟨i, rfl, hi, hnw⟩ := hrel
    by_cases hlt : i < n
    · obtain ⟨b, off, rfl, hb, hcs⟩ := hY.2 (by omega)
      obtain ⟨b', off', rfl, hb', hcs'⟩ := hZ.2 (by omega)
      have c0 := (hnw.cell hb).trans (hcs i hlt)
      have c1 := (hnw.cell hb').trans (hcs' i hlt)
      have he := he1.out i hlt
      clear hcs hcs'
      go_wp2
      go_quiet (fail)
      go_wp2
      go_roundw
      case rel => exact ⟨i + 1, by go_num, by omega, hnw.drewN _⟩
      case measure => simp [intOf]; omega
    · have hin : i = n := by omega
      subst hin
      go_wp2
      go_ret
      exact ⟨rfl, hnw⟩
theorem sameCommand_eq (k : Int) (C C' : Cu) (f f' : Nat → Nat) (w : World) (hs : SameC f f' C C') (hY : RdI .u8 w C.R C.dn (fun i => (f i : Nat))) (hZ : RdI .u8 w C'.R C'.dn (fun i => (f' i : Nat))) :
    Calls Tryd.prog 13 #[.agg (cuA k C), .agg (cuA k C')] w fun e w' => e = .returned (.bool true) ∧ New w w' := by
  obtain ⟨nm, ot, off, cnt, drv, kp, R, n, c⟩ := C
  obtain ⟨nm', ot', off', cnt', drv', kp', R', n', c'⟩ := C'
  obtain ⟨e1, e2, e3, e4, e5, e6, e7, e8⟩ := hs
  dsimp only at e1 e2 e3 e4 e5 e6 e7 e8 hY hZ
  subst e1 e2 e3 e4 e5 e6 e7
  obtain ⟨A1, hA1⟩ : ∃ A1, A1 = cuA k ⟨nm, ot, off, cnt, drv, kp, R, n, c⟩ := ⟨_, rfl⟩
  obtain ⟨A2, hA2⟩ : ∃ A2, A2 = cuA k ⟨nm, ot, off, cnt, drv, kp, R', n, c'⟩ := ⟨_, rfl⟩
  obtain ⟨W1, hW1⟩ : ∃ W1, W1 = (w.alloc (.cells A1 31)).alloc (.cells A2 31) := ⟨_, rfl⟩
  have hN1 : Hid (New w W1) := by show New _ _; rw [hW1]; exact ((New.refl w).alloc _).alloc _
  have hb1 : Hid (Blk W1 w.heap.size 31 A1) := by show Blk _ _ _ _; rw [hW1]; exact (Blk.fresh _ _ _).alloc _
  have hb2 : Hid (Blk W1 (w.heap.size + 1) 31 A2) := by
    show Blk _ _ _ _
    rw [hW1]
    have h := Blk.fresh (w.alloc (.cells A1 31)) 31 A2
    simpa using h
  have hS : Hid (∀ w', New W1 w' → Calls Tryd.prog 38 #[.slice R n c, .slice R' n c'] w' fun e w'' => e = .returned (.bool true) ∧ New w' w'') := fun w' hn => sameBytes_eq R R' n c c' _ _ w' (hY.new (hN1.out.next hn)) (hZ.new (hN1.out.next hn)) (fun i hi => by rw [e8 i hi])
  have x0 := hb1.out.cell 0
  have x1 := hb1.out.cell 1
  have x2 := hb1.out.cell 2
  have x3 := hb1.out.cell 3
  have x4 := hb1.out.cell 4
  have x5 := hb1.out.cell 5
  have x6 := hb1.out.cell 6
  have x7 := hb1.out.cell 7
  have y0 := hb2.out.cell 0
  have y1 := hb2.out.cell 1
  have y2 := hb2.out.cell 2
  have y3 := hb2.out.cell 3
  have y4 := hb2.out.cell 4
  have y5 := hb2.out.cell 5
  have y6 := hb2.out.cell 6
  have y7 := hb2.out.cell 7
  rw [hA1] at x0 x1 x2 x3 x4 x5 x6 x7
  rw [hA2] at y0 y1 y2 y3 y4 y5 y6 y7
  simp [cuA] at x0 x1 x2 x3 x4 x5 x6 x7 y0 y1 y2 y3 y4 y5 y6 y7
  rw [← hA1, ← hA2]
  clear hY hZ hA1 hA2 hb1 hb2
  go_enter Tryd.func13, Tryd.ntmps13
  go_upto_region 1 with fail
  rw [← hW1]
  clear hW1
  go_wp2_with (go_at_call 38; refine (hS.out _ (New.refl _)).mono ?_; rintro e w3 ⟨rfl, hn3⟩; have hn3 := Lib.hid hn3)
  exact bodyPost_ret (v := .bool true) (by simp [results, Tryd.results13, go_sem]) rfl ⟨rfl, hN1.out.next hn3.out⟩
end Go.Proofs.YtaommipcdcncnaaDoor.desk
