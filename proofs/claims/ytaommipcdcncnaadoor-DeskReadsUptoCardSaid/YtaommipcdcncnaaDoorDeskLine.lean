/-
  Contract of the reference's lineOf: all kinds.
-/
import Derived.Test.YtaommipcdcncnaaDoorDeskLineA
import Derived.Test.YtaommipcdcncnaaDoorDeskLineB
import Derived.Test.YtaommipcdcncnaaDoorDeskLineC
namespace Go.Proofs.YtaommipcdcncnaaDoor.desk
open Go.ChangeShapes Go.WideShapes Go.ChangeAt Go.RowKit Go.Proofs.YtaommipcdcncnaaDoor.kit Go.Deep
set_option linter.unusedVariables false
set_option linter.unusedSimpArgs false
set_option maxRecDepth 100000
theorem line_any (i : Nat) (hi : i < 19) (C : Cu) (f : Nat → Nat) (w : World) (hC : CuOk w f C) (hf : ∀ i, f i < 256) :
    Calls Tryd.prog 27 #[.agg (cuA ((i : Int) + 1) C)] w (LnP f i C w) := by
  obtain ⟨nm, ot, off, cnt, drv, kp, R, dn, dc⟩ := C
  match i, hi with
  | 0, _ => exact line_1 nm ot off cnt drv kp R dn dc f w hC hf
  | 1, _ => exact line_2 nm ot off cnt drv kp R dn dc f w hC hf
  | 2, _ => exact line_3 nm ot off cnt drv kp R dn dc f w hC hf
  | 3, _ => exact line_4 nm ot off cnt drv kp R dn dc f w hC hf
  | 4, _ => exact line_5 nm ot off cnt drv kp R dn dc f w hC hf
  | 5, _ => exact line_6 nm ot off cnt drv kp R dn dc f w hC hf
  | 6, _ => exact line_7 nm ot off cnt drv kp R dn dc f w hC hf
  | 7, _ => exact line_8 nm ot off cnt drv kp R dn dc f w hC hf
  | 8, _ => exact line_9 nm ot off cnt drv kp R dn dc f w hC hf
  | 9, _ => exact line_10 nm ot off cnt drv kp R dn dc f w hC hf
  | 10, _ => exact line_11 nm ot off cnt drv kp R dn dc f w hC hf
  | 11, _ => exact line_12 nm ot off cnt drv kp R dn dc f w hC hf
  | 12, _ => exact line_13 nm ot off cnt drv kp R dn dc f w hC hf
  | 13, _ => exact line_14 nm ot off cnt drv kp R dn dc f w hC hf
  | 14, _ => exact line_15 nm ot off cnt drv kp R dn dc f w hC hf
  | 15, _ => exact line_16 nm ot off cnt drv kp R dn dc f w hC hf
  | 16, _ => exact line_17 nm ot off cnt drv kp R dn dc f w hC hf
  | 17, _ => exact line_18 nm ot off cnt drv kp R dn dc f w hC hf
  | 18, _ => exact line_19 nm ot off cnt drv kp R dn dc f w hC hf
  | i + 19, h => omega
end Go.Proofs.YtaommipcdcncnaaDoor.desk
