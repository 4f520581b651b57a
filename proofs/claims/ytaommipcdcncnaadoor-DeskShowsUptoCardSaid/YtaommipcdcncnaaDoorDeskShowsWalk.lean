/-
  The walk of the law DeskShows.
-/
import Derived.Test.YtaommipcdcncnaaDoorRows
import Derived.Test.YtaommipcdcncnaaDoorDeskOpenC
import Derived.Test.YtaommipcdcncnaaDoorDeskShown
namespace Go.Proofs.YtaommipcdcncnaaDoor.deskShows
open Go.ChangeShapes Go.WideShapes Go.ChangeAt Go.RowKit Go.Proofs.YtaommipcdcncnaaDoor.kit Go.Proofs.YtaommipcdcncnaaDoor.desk Go.Proofs.YtaommipcdcncnaaDoor
set_option linter.unusedVariables false
set_option maxRecDepth 100000
theorem core (nm ot : Tx) (off cnt drv kp : Int) (R : Option Addr) (dn dc : Nat) (k : Int) (f : Nat → Nat) (w : World) (hC : CuOk w f ⟨nm, ot, off, cnt, drv, kp, R, dn, dc⟩) (hW : WordsIs w) (hf : ∀ i, f i < 256) (hT : Lib.TabIs Tryd.prog w "internal/strconv.uint64pow10" .u64 Lib.pow10Tab) :
    Calls Tryd.prog 4 #[.agg #[.int .i64 k, encStr nm, encStr ot, .int .i64 off, .int .i64 cnt, .int .i64 drv, .int .i64 kp, .slice R dn dc]] w fun e w' => e = .returned (.bool true) ∧ New w w' := by
  obtain ⟨W1, hW1⟩ : ∃ W1, W1 = w.alloc (.cells #[.int .i64 k, encStr nm, encStr ot, .int .i64 off, .int .i64 cnt, .int .i64 drv, .int .i64 kp, .slice R dn dc] 31) := ⟨_, rfl⟩
  have hN1 : Hid (New w W1) := by show New _ _; rw [hW1]; exact (New.refl w).alloc _
  have hb1 : Hid (Blk W1 w.heap.size 31 #[.int .i64 k, encStr nm, encStr ot, .int .i64 off, .int .i64 cnt, .int .i64 drv, .int .i64 kp, .slice R dn dc]) := by show Blk _ _ _ _; rw [hW1]; exact Blk.fresh _ _ _
  obtain ⟨x, hx⟩ : ∃ x, Hid (x = (showT f k ⟨nm, ot, off, cnt, drv, kp, R, dn, dc⟩).1) := ⟨_, rfl⟩
  obtain ⟨cd, hcd⟩ : ∃ cd : Int, Hid (cd = (showT f k ⟨nm, ot, off, cnt, drv, kp, R, dn, dc⟩).2) := ⟨_, rfl⟩
  have h1 : Hid (∀ w', New W1 w' → Calls Tryd.prog 9 #[.agg #[.int .i64 k, encStr nm, encStr ot, .int .i64 off, .int .i64 cnt, .int .i64 drv, .int .i64 kp, .slice R dn dc]] w' fun e w'' => e = .returned (.tuple #[encStr x, .int .i64 cd]) ∧ New w' w'') := fun w' hn => by
    rw [hx.out, hcd.out]
    exact Show_any k ⟨nm, ot, off, cnt, drv, kp, R, dn, dc⟩ f w' (hC.new (hN1.out.next hn)) (words_new hW (hN1.out.next hn)) hf (tab_new hT (hN1.out.next hn))
  have h2 : Hid (∀ w', New W1 w' → Calls Tryd.prog 10 #[.agg #[.int .i64 k, encStr nm, encStr ot, .int .i64 off, .int .i64 cnt, .int .i64 drv, .int .i64 kp, .slice R dn dc]] w' fun e w'' => e = .returned (.tuple #[encStr x, .int .i64 cd]) ∧ New w' w'') := fun w' hn => by
    rw [hx.out, hcd.out]
    exact Shown_any k ⟨nm, ot, off, cnt, drv, kp, R, dn, dc⟩ f w' (hC.new (hN1.out.next hn)) hf
  have x0 := hb1.out.cell 0
  have x1 := hb1.out.cell 1
  have x2 := hb1.out.cell 2
  have x3 := hb1.out.cell 3
  have x4 := hb1.out.cell 4
  have x5 := hb1.out.cell 5
  have x6 := hb1.out.cell 6
  have x7 := hb1.out.cell 7
  simp at x0 x1 x2 x3 x4 x5 x6 x7
  clear hC hW hf hT hx hcd
  go_enter Tryd.func4, Tryd.ntmps4
  go_upto_region 1 with fail
  rw [← hW1]
  clear hW1
  go_upto_region 2 with (go_at_call 9; refine (h1.out _ (New.refl _)).mono ?_; rintro e w2 ⟨rfl, hn2⟩; have hn2 := Lib.hid hn2)
  have hb2 := Lib.hid (hb1.out.new hn2.out)
  clear x0 x1 x2 x3 x4 x5 x6 x7
  have x0 := hb2.out.cell 0
  have x1 := hb2.out.cell 1
  have x2 := hb2.out.cell 2
  have x3 := hb2.out.cell 3
  have x4 := hb2.out.cell 4
  have x5 := hb2.out.cell 5
  have x6 := hb2.out.cell 6
  have x7 := hb2.out.cell 7
  simp at x0 x1 x2 x3 x4 x5 x6 x7
  go_wp2_with (go_at_call 10; refine (h2.out _ hn2.out).mono ?_; rintro e w3 ⟨rfl, hn3⟩; have hn3 := Lib.hid hn3)
  exact bodyPost_ret (v := .bool true) (by simp [results, Tryd.results4, go_sem]) rfl ⟨rfl, (hN1.out.next hn2.out).next hn3.out⟩
theorem walk {H : Type} (enc : TypeId × Value → H) (W : World) {base : Nat} {v0 : Value} {d0 : DataW H} {p0 : List MemPlace} (ok0 : Value.okWide Tryd.prog W .any base 31 v0) (h0 : DataW.Trod enc Tryd.prog W 0 (fun _ => true) true 31 v0 d0 p0) (hk : Rows.uptoSmall H ([d0] ++ []) = true)
    (htab : Lib.TabIs Tryd.prog W "internal/strconv.uint64pow10" .u64 Lib.pow10Tab) (hwords : WordsIs W) :
    Calls Tryd.prog 4 #[v0] W fun e W' => e = .returned (.bool true) ∧ Below W.heap.size W W' := by
  have hb := bulks.bound hk
  simp only [List.append_nil, Rows.uptoBulkAll] at hb
  obtain ⟨k, ⟨nm, ot, off, cnt, drv, kp, R, dn, dc⟩, f, rfl, hC, hf⟩ := open_cmd ok0 h0 (by omega)
  exact core nm ot off cnt drv kp R dn dc k f W hC hwords hf htab
end Go.Proofs.YtaommipcdcncnaaDoor.deskShows
