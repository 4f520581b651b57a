/-
  Contracts of label.Encode and of its parts.
-/
import Derived.Test.YthkgcbjfgglciaaLabelBytes
import Derived.Test.YthkgcbjfgglciaaLabelMay
import Derived.BigRegion
import Derived.Great.Walk
namespace Go.Proofs.Ythkgcbjfgglciaa.label
open Go.ChangeShapes Go.WideShapes Go.ChangeAt Go.RowKit Go.Proofs.Ythkgcbjfgglciaa.kit Go.Proofs.Ythkgcbjfgglciaa.flet Go.Deep
set_option linter.unusedVariables false

/-- thirteen numbers as a label's cells -/
abbrev labC (X : Nat → Int) : Array Value := #[.int .i64 (X 0), .int .i64 (X 1), .int .i64 (X 2), .int .i64 (X 3), .int .i64 (X 4), .int .i64 (X 5), .int .i64 (X 6), .int .i64 (X 7), .int .i64 (X 8), .int .i64 (X 9), .int .i64 (X 10), .int .i64 (X 11), .int .i64 (X 12)]
def okX (X : Nat → Int) : Prop := okP (X 0) (X 1) (X 2) (X 3) (X 4) (X 5) (X 6) (X 7) (X 8)
instance (X : Nat → Int) : Decidable (okX X) := by unfold okX; infer_instance
def i64P (x : Int) : Prop := -9223372036854775808 ≤ x ∧ x ≤ 9223372036854775807
def labF (X se : Nat → Int) (i : Nat) : Nat := if i < 36 then lowB (X (i / 4)) (i % 4) else if i < 68 then lowB (X (9 + (i - 36) / 8)) ((i - 36) % 8) else if i < 96 then 0 else lowB (se ((i - 96) / 8)) ((i - 96) % 8)
theorem labF_lt (X se : Nat → Int) (i : Nat) : labF X se i < 256 := by
  unfold labF
  repeat' split
  all_goals first | exact lowB_lt _ _ | omega
theorem labF_field (X se : Nat → Int) (m q : Nat) (hm : m < 9) (hq : q < 4) : labF X se (4 * m + q) = lowB (X m) q := by
  unfold labF
  rw [if_pos (by omega), show (4 * m + q) / 4 = m by omega, show (4 * m + q) % 4 = q by omega]
theorem labF_sum (X se : Nat → Int) (m q : Nat) (hm : m < 4) (hq : q < 8) : labF X se (36 + 8 * m + q) = lowB (X (9 + m)) q := by
  unfold labF
  rw [if_neg (by omega), if_pos (by omega), show (36 + 8 * m + q - 36) / 8 = m by omega, show (36 + 8 * m + q - 36) % 8 = q by omega]
theorem labF_zero (X se : Nat → Int) (i : Nat) (h1 : 68 ≤ i) (h2 : i < 96) : labF X se i = 0 := by
  unfold labF
  rw [if_neg (by omega), if_neg (by omega), if_pos h2]
theorem labF_seal (X se : Nat → Int) (m q : Nat) (hm : m < 4) (hq : q < 8) : labF X se (96 + 8 * m + q) = lowB (se m) q := by
  unfold labF
  rw [if_neg (by omega), if_neg (by omega), if_neg (by omega), show (96 + 8 * m + q - 96) / 8 = m by omega, show (96 + 8 * m + q - 96) % 8 = q by omega]
theorem labF_head (X se se' : Nat → Int) (i : Nat) (h : i < 96) : labF X se i = labF X se' i := by
  unfold labF
  repeat' split
  all_goals first | rfl | omega
/-- four numbers by their places -/
def at4 (s : Int × Int × Int × Int) (j : Nat) : Int := if j = 0 then s.1 else if j = 1 then s.2.1 else if j = 2 then s.2.2.1 else s.2.2.2
def sealS (X : Nat → Int) : Int × Int × Int × Int := sums (labF X fun _ => 0) 24 (0, 0, 0, 0)
def sealX (X : Nat → Int) : Nat → Int := at4 (sealS X)
theorem sums_same {B B' : Nat → Nat} (s : Int × Int × Int × Int) : ∀ k, (∀ i, i < 4 * k → B i = B' i) → sums B k s = sums B' k s
  | 0, _ => rfl
  | k + 1, h => by
    unfold sums
    rw [sums_same s k fun i hi => h i (by omega), h (4 * k) (by omega), h (4 * k + 1) (by omega), h (4 * k + 2) (by omega), h (4 * k + 3) (by omega)]
theorem wrap_bd (x : Int) : i64P (wrap64 x) := by unfold i64P wrap64; omega
theorem sums_bd (B : Nat → Nat) : ∀ k, 0 < k → ∀ s : Int × Int × Int × Int, i64P (sums B k s).1 ∧ i64P (sums B k s).2.1 ∧ i64P (sums B k s).2.2.1 ∧ i64P (sums B k s).2.2.2
  | 0, h, _ => absurd h (Nat.lt_irrefl 0)
  | k + 1, _, s => ⟨wrap_bd _, wrap_bd _, wrap_bd _, wrap_bd _⟩
theorem sealX_bd (X : Nat → Int) (j : Nat) : i64P (sealX X j) := by
  have h := sums_bd (labF X fun _ => 0) 24 (by omega) (0, 0, 0, 0)
  unfold sealX at4 sealS
  repeat' split
  · exact h.1
  · exact h.2.1
  · exact h.2.2.1
  · exact h.2.2.2
abbrev nine (g : Nat) : Array Value := #[.pointer (some ⟨g, 0, none⟩), .pointer (some ⟨g, 1, none⟩), .pointer (some ⟨g, 2, none⟩), .pointer (some ⟨g, 3, none⟩), .pointer (some ⟨g, 4, none⟩), .pointer (some ⟨g, 5, none⟩), .pointer (some ⟨g, 6, none⟩), .pointer (some ⟨g, 7, none⟩), .pointer (some ⟨g, 8, none⟩)]
abbrev quad (g o : Nat) : Array Value := #[.pointer (some ⟨g, o, none⟩), .pointer (some ⟨g, o + 1, none⟩), .pointer (some ⟨g, o + 2, none⟩), .pointer (some ⟨g, o + 3, none⟩)]
theorem small_any (g : Nat) (w : World) :
    Calls Try.prog 52 #[.pointer (some ⟨g, 0, none⟩)] w fun e w' => e = .returned (.agg (nine g)) ∧ New w w' := by
  go_enter Try.func52, Try.ntmps52
  go_wp2
  go_region
  go_wp2
  exact bodyPost_ret (v := .agg (nine g)) (by simp [results, Try.results52, go_sem]) rfl ⟨rfl, ((New.refl _).alloc _).drew⟩
theorem sums0_any (g : Nat) (w : World) :
    Calls Try.prog 54 #[.pointer (some ⟨g, 0, none⟩)] w fun e w' => e = .returned (.agg (quad g 0)) ∧ New w w' := by
  go_enter Try.func54, Try.ntmps54
  go_wp2
  go_region
  go_wp2
  exact bodyPost_ret (v := .agg (quad g 0)) (by simp [results, Try.results54, go_sem]) rfl ⟨rfl, ((New.refl _).alloc _).drew⟩
theorem sums9_any (g : Nat) (w : World) :
    Calls Try.prog 54 #[.pointer (some ⟨g, 9, none⟩)] w fun e w' => e = .returned (.agg (quad g 9)) ∧ New w w' := by
  go_enter Try.func54, Try.ntmps54
  go_wp2
  go_region
  go_wp2
  exact bodyPost_ret (v := .agg (quad g 9)) (by simp [results, Try.results54, go_sem]) rfl ⟨rfl, ((New.refl _).alloc _).drew⟩
theorem nine_at (g k : Nat) (hk : k < 9) (w : World) : (Instr.index 66 (.agg (nine g)) (.int .i64 (k : Nat))).run Try.prog w = .ok (.pointer (some ⟨g, k, none⟩)) w := by
  match k, hk with
  | 0, _ => show (Instr.index 66 (.agg (nine g)) (.int .i64 0)).run Try.prog w = .ok (.pointer (some ⟨g, 0, none⟩)) w; kernel_rfl
  | 1, _ => show (Instr.index 66 (.agg (nine g)) (.int .i64 1)).run Try.prog w = .ok (.pointer (some ⟨g, 1, none⟩)) w; kernel_rfl
  | 2, _ => show (Instr.index 66 (.agg (nine g)) (.int .i64 2)).run Try.prog w = .ok (.pointer (some ⟨g, 2, none⟩)) w; kernel_rfl
  | 3, _ => show (Instr.index 66 (.agg (nine g)) (.int .i64 3)).run Try.prog w = .ok (.pointer (some ⟨g, 3, none⟩)) w; kernel_rfl
  | 4, _ => show (Instr.index 66 (.agg (nine g)) (.int .i64 4)).run Try.prog w = .ok (.pointer (some ⟨g, 4, none⟩)) w; kernel_rfl
  | 5, _ => show (Instr.index 66 (.agg (nine g)) (.int .i64 5)).run Try.prog w = .ok (.pointer (some ⟨g, 5, none⟩)) w; kernel_rfl
  | 6, _ => show (Instr.index 66 (.agg (nine g)) (.int .i64 6)).run Try.prog w = .ok (.pointer (some ⟨g, 6, none⟩)) w; kernel_rfl
  | 7, _ => show (Instr.index 66 (.agg (nine g)) (.int .i64 7)).run Try.prog w = .ok (.pointer (some ⟨g, 7, none⟩)) w; kernel_rfl
  | 8, _ => show (Instr.index 66 (.agg (nine g)) (.int .i64 8)).run Try.prog w = .ok (.pointer (some ⟨g, 8, none⟩)) w; kernel_rfl
theorem quad_at (g o k : Nat) (hk : k < 4) (w : World) : (Instr.index 70 (.agg (quad g o)) (.int .i64 (k : Nat))).run Try.prog w = .ok (.pointer (some ⟨g, o + k, none⟩)) w := by
  match k, hk with
  | 0, _ => show (Instr.index 70 (.agg (quad g o)) (.int .i64 0)).run Try.prog w = .ok (.pointer (some ⟨g, o + 0, none⟩)) w; kernel_rfl
  | 1, _ => show (Instr.index 70 (.agg (quad g o)) (.int .i64 1)).run Try.prog w = .ok (.pointer (some ⟨g, o + 1, none⟩)) w; kernel_rfl
  | 2, _ => show (Instr.index 70 (.agg (quad g o)) (.int .i64 2)).run Try.prog w = .ok (.pointer (some ⟨g, o + 2, none⟩)) w; kernel_rfl
  | 3, _ => show (Instr.index 70 (.agg (quad g o)) (.int .i64 3)).run Try.prog w = .ok (.pointer (some ⟨g, o + 3, none⟩)) w; kernel_rfl
theorem labC_at (X : Nat → Int) (k : Nat) (hk : k < 13) : (labC X)[k]? = some (.int .i64 (X k)) := by
  match k, hk with
  | 0, _ => rfl
  | 1, _ => rfl
  | 2, _ => rfl
  | 3, _ => rfl
  | 4, _ => rfl
  | 5, _ => rfl
  | 6, _ => rfl
  | 7, _ => rfl
  | 8, _ => rfl
  | 9, _ => rfl
  | 10, _ => rfl
  | 11, _ => rfl
  | 12, _ => rfl
set_option maxRecDepth 100000 in
theorem Encode_bad (X : Nat → Int) (w : World) (h : ¬ okX X) :
    Calls Try.prog 28 #[.agg (labC X)] w fun e w' => e = .returned (.tuple #[.slice none 0 0, .int .i64 4]) ∧ New w w' := by
  have hd : decide (okP (X 0) (X 1) (X 2) (X 3) (X 4) (X 5) (X 6) (X 7) (X 8)) = false := decide_eq_false h
  go_enter Try.func28, Try.ntmps28
  go_wp2_with fail
  refine (May_any (X 0) (X 1) (X 2) (X 3) (X 4) (X 5) (X 6) (X 7) (X 8) (X 9) (X 10) (X 11) (X 12) _).mono ?_
  rw [hd]
  clear hd
  rintro e w1 ⟨rfl, hn⟩
  go_wp2
  go_ret2
  exact ⟨rfl, hn.of_alloc⟩
set_option maxRecDepth 100000 in
theorem Encode_ok (X : Nat → Int) (w : World) (h : okX X) (hX : ∀ i, i < 13 → i64P (X i)) :
    Calls Try.prog 28 #[.agg (labC X)] w fun e w' => ∃ g, e = .returned (.tuple #[.slice (some ⟨g, 0, none⟩) 128 128, .int .i64 0]) ∧ RdB w' (some ⟨g, 0, none⟩) 128 (labF X (sealX X)) ∧ New w w' := by
  have hd : decide (okP (X 0) (X 1) (X 2) (X 3) (X 4) (X 5) (X 6) (X 7) (X 8)) = true := decide_eq_true h
  have hX0 := Lib.hid hX
  have hbox := Blk.fresh w 41 (labC X)
  have hmk : ∀ w, (Instr.makeSlice 42 (.int .i64 0) (.int .i64 128)).run Try.prog w = .ok (.slice (some ⟨w.heap.size, 0, none⟩) 0 128) (w.alloc (.cells (madeCells #[.int .u8 0] 128) 5)) :=
    run_make_room (P := Try.prog) 42 5 (.int .u8 0) 1 Try.underlying42 infoU8 rfl .i64 .i64 128 (by omega) (by omega)
  clear h hX
  go_enter Try.func28, Try.ntmps28
  go_wp2_with fail
  refine (May_any (X 0) (X 1) (X 2) (X 3) (X 4) (X 5) (X 6) (X 7) (X 8) (X 9) (X 10) (X 11) (X 12) _).mono ?_
  rw [hd]
  clear hd
  rintro e w1 ⟨rfl, hn1⟩
  have hbox1 := Lib.hid (hbox.new hn1)
  have hN1 := Lib.hid hn1.of_alloc
  have hrow0 : (w1.alloc (.cells (madeCells #[.int .u8 0] 128) 5)).rowIs w1.heap.size 5 128 (upF (labF X (sealX X)) (4 * 0)) :=
    (World.rowIs_made w1 (.int .u8 0) 128 5).congr fun i _ => by simp [upF]
  have hrow1 := Lib.hid hrow0
  have hlt1 : w.heap.size < w1.heap.size := by have := hbox.new hn1; exact this.lt
  clear hbox hn1 hrow0
  go_wp2_with fail
  refine (small_any w.heap.size _).mono ?_
  rintro e w2 ⟨rfl, hn2⟩
  have hbox2 := (hbox1.out.alloc _).new hn2
  have hrow2 := row_new hrow1.out hn2
  have hN2 := (hN1.out.alloc _).next hn2
  clear hn2
  have hat := Lib.hid (nine_at w.heap.size)
  go_wp2
  go_loopw [4, 18] (fun v c wr => ∃ k : Nat, c = .int .i64 k ∧ k ≤ 9 ∧ v = .slice (some ⟨w1.heap.size, 0, none⟩) (4 * k) 128 ∧ Blk wr w.heap.size 41 (labC X) ∧ wr.rowIs w1.heap.size 5 128 (upF (labF X (sealX X)) (4 * k)) ∧ New w wr) (fun _ c _ => 9 - (intOf c).toNat)
  case atStart => exact ⟨0, rfl, by omega, rfl, hbox2, hrow2, hN2⟩
  case round =>
    obtain ⟨k, rfl, hk, rfl, hbx, hrw, hnw⟩ := hrel
    by_cases hlt : k < 9
    · have hix := hat.out k hlt
      have hki : (k : Int) < 9 := by omega
      have c0 : wr.cell? ⟨w.heap.size, k, none⟩ = some (.int .i64 (X k)) := by rw [hbx.cell k]; exact labC_at X k (by omega)
      have hbx1 := Lib.hid hbx
      have hrw1 := Lib.hid hrw
      have hnw1 := Lib.hid hnw
      clear hbx hrw hnw
      go_wp2_with fail
      refine (write_any w1.heap.size (4 * k) 4 (labF X (sealX X)) (X k) _ hrw1.out (by omega) (fun q hq => labF_field X _ k q hlt hq) (hX0.out k (by omega)).1 (hX0.out k (by omega)).2).mono ?_
      rintro e w3 ⟨rfl, hrw3, hg3⟩
      have hbx3 := hbx1.out.grown hg3 (by simp; omega)
      have hnw3 := hnw1.out.grown1 hg3 (by omega)
      go_wp2
      go_roundw
      case rel => exact ⟨k + 1, by go_num, by omega, by rw [Nat.mul_add], hbx3, hrw3, hnw3⟩
      case measure => simp [intOf]; omega
    · have hk9 : k = 9 := by omega
      subst hk9
      have hbx1 := Lib.hid hbx
      have hrw1 := Lib.hid hrw
      have hnw1 := Lib.hid hnw
      clear hbx hrw hnw hat
      go_wp2_with fail
      refine (sums9_any w.heap.size _).mono ?_
      rintro e w3 ⟨rfl, hn3⟩
      have hbox3 := hbx1.out.new hn3
      have hrow3 := row_new hrw1.out hn3
      have hN3 := hnw1.out.next hn3
      clear hn3
      have hat := Lib.hid (quad_at w.heap.size 9)
      go_wp2
      go_loopw [4, 30] (fun v c wr => ∃ k : Nat, c = .int .i64 k ∧ k ≤ 4 ∧ v = .slice (some ⟨w1.heap.size, 0, none⟩) (36 + 8 * k) 128 ∧ Blk wr w.heap.size 41 (labC X) ∧ wr.rowIs w1.heap.size 5 128 (upF (labF X (sealX X)) (36 + 8 * k)) ∧ New w wr) (fun _ c _ => 4 - (intOf c).toNat)
      case atStart => exact ⟨0, rfl, by omega, rfl, hbox3, hrow3, hN3⟩
      case round =>
        obtain ⟨k, rfl, hk, rfl, hbx, hrw, hnw⟩ := hrel
        by_cases hlt : k < 4
        · have hix := hat.out k hlt
          have hki : (k : Int) < 4 := by omega
          have c0 : wr.cell? ⟨w.heap.size, 9 + k, none⟩ = some (.int .i64 (X (9 + k))) := by rw [hbx.cell (9 + k)]; exact labC_at X (9 + k) (by omega)
          have hbx1 := Lib.hid hbx
          have hrw1 := Lib.hid hrw
          have hnw1 := Lib.hid hnw
          clear hbx hrw hnw
          go_wp2_with fail
          refine (write_any w1.heap.size (36 + 8 * k) 8 (labF X (sealX X)) (X (9 + k)) _ hrw1.out (by omega) (fun q hq => labF_sum X _ k q hlt hq) (hX0.out (9 + k) (by omega)).1 (hX0.out (9 + k) (by omega)).2).mono ?_
          rintro e w4 ⟨rfl, hrw3, hg3⟩
          have hbx3 := hbx1.out.grown hg3 (by simp; omega)
          have hnw3 := hnw1.out.grown1 hg3 (by omega)
          go_wp2
          go_roundw
          case rel => exact ⟨k + 1, by go_num, by omega, by rw [Nat.mul_add, Nat.add_assoc], hbx3, hrw3, hnw3⟩
          case measure => simp [intOf]; omega
        · have hk4 : k = 4 := by omega
          subst hk4
          have hrd : RdB wr (some ⟨w1.heap.size, 0, none⟩) 96 (labF X fun _ => 0) := ⟨by unfold maxLen; omega, fun i hi => labF_lt _ _ _, fun _ => ⟨w1.heap.size, 0, rfl, hrw.lt, fun i hi => by
            have := hrw.cell (i := i) (by omega)
            rw [Nat.zero_add, this]
            unfold upF
            by_cases h68 : i < 68
            · rw [if_pos (by omega), labF_head X (sealX X) (fun _ => 0) i hi]
            · rw [if_neg (by omega), labF_zero X _ i (by omega) hi]⟩⟩
          have hrw2 : wr.rowIs w1.heap.size 5 128 (upF (labF X (sealX X)) (96 + 8 * 0)) := hrw.congr fun i hi => congrFun (upF_same fun i => by
            by_cases h68 : i < 36 + 8 * 4
            · rw [if_pos h68, if_pos (by omega)]
            · rw [if_neg h68]
              by_cases h96 : i < 96 + 8 * 0
              · rw [if_pos h96, labF_zero X _ i (by omega) (by omega)]
              · rw [if_neg h96]) i
          have hrd1 := Lib.hid hrd
          have hrw1 := Lib.hid hrw2
          have hnw1 := Lib.hid hnw
          have hlw := hrw.lt
          clear hbx hrw hnw hat hrd hrw2
          go_wp2_with fail
          refine (Of_ok (some ⟨w1.heap.size, 0, none⟩) 96 128 (labF X fun _ => 0) _ hrd1.out (by omega) (by omega)).mono ?_
          obtain ⟨S, hS⟩ : ∃ S, Hid (S = sealS X) := ⟨_, (rfl : _ = _)⟩
          rw [show sums (labF X fun _ => 0) (96 / 4) (0, 0, 0, 0) = S from hS.out.symm]
          rintro e w5 ⟨rfl, hn5⟩
          have hrow5 := Lib.hid (row_new hrw1.out hn5)
          have hN5 := Lib.hid (hnw1.out.next hn5)
          have hbx5 := Lib.hid (Blk.fresh w5 37 #[.int .i64 (at4 S 0), .int .i64 (at4 S 1), .int .i64 (at4 S 2), .int .i64 (at4 S 3)])
          have hlt5 : w1.heap.size < w5.heap.size := (row_new hrw1.out hn5).lt
          clear hn5
          go_wp2_with fail
          refine (sums0_any w5.heap.size _).mono ?_
          rintro e w6 ⟨rfl, hn6⟩
          have hbox6 := hbx5.out.new hn6
          have hrow6 := row_new (hrow5.out.alloc _) hn6
          have hN6 := (hN5.out.alloc _).next hn6
          clear hn6
          have hat := Lib.hid (quad_at w5.heap.size 0)
          go_wp2
          go_loopw [4, 47] (fun v c wr => ∃ k : Nat, c = .int .i64 k ∧ k ≤ 4 ∧ v = .slice (some ⟨w1.heap.size, 0, none⟩) (96 + 8 * k) 128 ∧ Blk wr w5.heap.size 37 #[.int .i64 (at4 S 0), .int .i64 (at4 S 1), .int .i64 (at4 S 2), .int .i64 (at4 S 3)] ∧ wr.rowIs w1.heap.size 5 128 (upF (labF X (sealX X)) (96 + 8 * k)) ∧ New w wr) (fun _ c _ => 4 - (intOf c).toNat)
          case atStart => exact ⟨0, rfl, by omega, rfl, hbox6, hrow6, hN6⟩
          case round =>
            obtain ⟨k, rfl, hk, rfl, hbx, hrw, hnw⟩ := hrel
            by_cases hlt : k < 4
            · have hix := hat.out k hlt
              have hki : (k : Int) < 4 := by omega
              rw [Nat.zero_add] at hix
              have c0 : wr.cell? ⟨w5.heap.size, k, none⟩ = some (.int .i64 (at4 S k)) := by
                rw [hbx.cell k]
                match k, hlt with
                | 0, _ => rfl
                | 1, _ => rfl
                | 2, _ => rfl
                | 3, _ => rfl
              have hse : Hid (at4 S k = sealX X k) := by rw [hS.out]; rfl
              have hbx1 := Lib.hid hbx
              have hrw1 := Lib.hid hrw
              have hnw1 := Lib.hid hnw
              clear hbx hrw hnw
              go_wp2_with fail
              refine (write_any w1.heap.size (96 + 8 * k) 8 (labF X (sealX X)) (at4 S k) _ hrw1.out (by omega) (fun q hq => by rw [hse.out]; exact labF_seal X _ k q hlt hq) (by rw [hse.out]; exact (sealX_bd X k).1) (by rw [hse.out]; exact (sealX_bd X k).2)).mono ?_
              rintro e w7 ⟨rfl, hrw3, hg3⟩
              have hbx3 := hbx1.out.grown hg3 (by simp; omega)
              have hnw3 := hnw1.out.grown1 hg3 (by omega)
              go_wp2
              go_roundw
              case rel => exact ⟨k + 1, by go_num, by omega, by rw [Nat.mul_add, Nat.add_assoc], hbx3, hrw3, hnw3⟩
              case measure => simp [intOf]; omega
            · have hk4 : k = 4 := by omega
              subst hk4
              have hrd : Hid (RdB wr (some ⟨w1.heap.size, 0, none⟩) 128 (labF X (sealX X))) := ⟨by unfold maxLen; omega, fun i hi => labF_lt _ _ _, fun _ => ⟨w1.heap.size, 0, rfl, hrw.lt, fun i hi => by
                have := hrw.cell (i := i) (by omega)
                rw [Nat.zero_add, this]
                unfold upF
                rw [if_pos (by omega)]⟩⟩
              have hnw1 := Lib.hid hnw
              clear hbx hrw hnw hat
              go_wp2
              go_ret2
              exact ⟨_, rfl, hrd.out, hnw1.out⟩
end Go.Proofs.Ythkgcbjfgglciaa.label
