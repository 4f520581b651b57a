/-
  Contract of the program's hex.
-/
import Derived.Test.YtaommipcdcncnaaDoorDeskDeci
import Derived.Test.YtaommipcdcncnaaDoorDeskShelf
namespace Go.Proofs.YtaommipcdcncnaaDoor.desk
open Go.ChangeShapes Go.WideShapes Go.ChangeAt Go.RowKit Go.Proofs.YtaommipcdcncnaaDoor.kit Go.Deep
set_option linter.unusedVariables false
set_option maxRecDepth 100000
theorem digit_at : ∀ (k : Nat) (h : k < (⟨#[48, 49, 50, 51, 52, 53, 54, 55, 56, 57, 97, 98, 99, 100, 101, 102]⟩ : ByteArray).size), (⟨#[48, 49, 50, 51, 52, 53, 54, 55, 56, 57, 97, 98, 99, 100, 101, 102]⟩ : ByteArray)[k] = hexD k := by decide
theorem hex_any (A : Option Addr) (n c : Nat) (f : Nat → Nat) (w : World) (h : RdI .u8 w A n (fun i => (f i : Nat))) (hf : ∀ i, f i < 256) (hn : n ≤ 1048576) :
    Calls Tryd.prog 21 #[.slice A n c] w fun e w' => e = .returned (encStr (hexT f n)) ∧ New w w' := by
  have hH := Lib.hid h
  have hfH := Lib.hid hf
  clear h hf
  by_cases hz : n = 0
  · subst hz
    go_enter Tryd.func21, Tryd.ntmps21
    go_wp2
    exact bodyPost_ret (v := encStr [45]) (by simp [results, Tryd.results21, go_sem]) rfl ⟨rfl, New.refl _⟩
  · have hzi : ((n : Int) == 0) = false := by simp; omega
    obtain ⟨W1, hW1⟩ : ∃ W1, W1 = w.alloc (.cells #[.pointer none, .slice none 0 0] 71) := ⟨_, rfl⟩
    have hN1 : Hid (New w W1) := by show New _ _; rw [hW1]; exact (New.refl w).alloc _
    have hB1 : Hid (Lib.IsBuilder 71 5 w.heap.size w.heap.size [] W1) := by show Lib.IsBuilder _ _ _ _ _ _; rw [hW1]; exact Lib.fresh_isBuilder _ _ _
    go_enter Tryd.func21, Tryd.ntmps21
    go_upto_region 4 with fail
    rw [← hW1]
    clear hW1
    go_wp2_with fail
    go_loopw [11] (fun x wr => ∃ i : Nat, x = .int .i64 i ∧ i ≤ n ∧ Hid (Lib.IsBuilder 71 5 w.heap.size w.heap.size (Lib.byteCells (hexN f i)) wr) ∧ Hid (New w wr)) (fun x _ => n - (intOf x).toNat)
    case atStart => exact ⟨0, rfl, Nat.zero_le _, hB1, hN1⟩
    case round =>
      obtain ⟨i, rfl, hi, hB, hN⟩ := hrel
      by_cases hlt : i < n
      · obtain ⟨g, off, rfl, hg, hc⟩ := hH.out.2 (by omega)
        have e0 := (hN.out.cell hg).trans (hc i hlt)
        have hil : (i : Int) < (n : Int) := by omega
        obtain ⟨x, hx⟩ : ∃ x, Hid (x = f i) := ⟨_, rfl⟩
        have hx2 : x < 256 := by rw [hx.out]; exact hfH.out i
        replace e0 : wr.cell? ⟨g, off + i, none⟩ = some (.int .u8 ((x : Nat) : Int)) := by rw [hx.out]; exact e0
        have hsz := hN.out.size
        obtain ⟨y1, hy1⟩ : ∃ y, Hid (y = hexD (x / 16)) := ⟨_, rfl⟩
        obtain ⟨y2, hy2⟩ : ∃ y, Hid (y = hexD (x % 16)) := ⟨_, rfl⟩
        have g1 : (⟨#[48, 49, 50, 51, 52, 53, 54, 55, 56, 57, 97, 98, 99, 100, 101, 102]⟩ : ByteArray)[x / 16]'(by show x / 16 < 16; omega) = y1 := by rw [hy1.out]; exact digit_at _ _
        have g2 : (⟨#[48, 49, 50, 51, 52, 53, 54, 55, 56, 57, 97, 98, 99, 100, 101, 102]⟩ : ByteArray)[x % 16]'(by show x % 16 < 16; omega) = y2 := by rw [hy2.out]; exact digit_at _ _
        clear hc
        go_upto_region 7 with fail
        go_wp2_with (first
          | (go_at_call 43; refine (sh_Builder_WriteByte _ _ _ _ _ (Or.inr hB2.out) (by rw [List.length_append, Lib.byteCells_length, hexN_len]; simp; omega) (by omega)).mono ?_; rintro e w3 ⟨rfl, hB3, hb3⟩; have hB3 := Lib.hid hB3; have hb3 := Lib.hid hb3)
          | (go_at_call 43; refine (sh_Builder_WriteByte _ _ _ _ _ hB.out (by rw [Lib.byteCells_length, hexN_len]; omega) (by omega)).mono ?_; rintro e w2 ⟨rfl, hB2, hb2⟩; have hs2 := hb2.size; have hB2 := Lib.hid hB2; have hb2 := Lib.hid hb2))
        have hstep : Hid (Lib.IsBuilder 71 5 w.heap.size w.heap.size (Lib.byteCells (hexN f (i + 1))) w3) := by
          have h := hB3.out
          rw [hy1.out, hy2.out] at h
          refine Or.inr ?_
          rw [show hexN f (i + 1) = hexN f i ++ [hexD (f i / 16), hexD (f i % 16)] from rfl, Lib.byteCells_append, ← hx.out]
          simpa [Lib.byteCells] using h
        go_roundw
        case rel => exact ⟨i + 1, by go_num, by omega, hstep, (hN.out.trans hb2.out).trans hb3.out⟩
        case measure => simp [intOf]; omega
      · have hin : n = i := by omega
        have hil : ¬ (i : Int) < (n : Int) := by omega
        subst hin
        have hsz := hN.out.size
        go_wp2_with (go_at_call 44; refine (sh_Builder_String_any _ _ _ _ hB.out (by omega)).mono ?_; rintro e w2 ⟨rfl, hb2⟩; have hb2 := Lib.hid hb2)
        exact bodyPost_ret (v := encStr (hexN f n)) (by simp [results, Tryd.results21, go_sem]) rfl ⟨by rw [hexT_ne (by omega)], hN.out.trans hb2.out⟩
end Go.Proofs.YtaommipcdcncnaaDoor.desk
