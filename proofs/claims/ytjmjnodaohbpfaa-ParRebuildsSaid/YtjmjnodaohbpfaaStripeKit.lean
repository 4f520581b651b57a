/-
  Contracts of the small functions of package stripe, and of slices.Clone.
-/
import Derived.Test.YtjmjnodaohbpfaaRowK
import Derived.Test.YtjmjnodaohbpfaaGeomColSame
import Derived.Test.YtjmjnodaohbpfaaStripePlain
import Derived.Test.YtjmjnodaohbpfaaParRefEnc
import Derived.Lib.SliceRun
namespace Go.Proofs.Ytjmjnodaohbpfaa.stripe
open Go.ChangeShapes Go.WideShapes Go.ChangeAt Go.RowKit Go.Proofs.Ytjmjnodaohbpfaa.kit Go.Proofs.Ytjmjnodaohbpfaa.geom Go.Deep
set_option linter.unusedVariables false
set_option maxRecDepth 100000

theorem infoU8 : (Try.prog.info? 5).map (fun i => (i.zero, i.size, i.bytes)) = some (some (.int .u8 0), 1, 1) := by kernel_rfl
theorem sectors_any (n : Nat) (hn : n ≤ 4096) (w : World) : Calls Try.prog 33 #[.int .i64 n] w fun e w' => e = .returned (.int .i64 ((n + 127) / 128 : Nat)) ∧ w = w' := by
  go_enter Try.func33, Try.ntmps33
  go_wp2
  go_ret
  exact ⟨ret1 (by omega), rfl⟩
theorem sized_any (n : Nat) (hn : n ≤ maxLen) (w : World) : Calls Try.prog 53 #[.int .i64 n] w fun e w' => e = .returned (.bool (decide (1 ≤ n ∧ n ≤ 4096))) ∧ w = w' := by
  unfold maxLen at hn
  by_cases h : 1 ≤ n ∧ n ≤ 4096
  · have h1 : (1 : Int) ≤ (n : Int) := by omega
    have h2 : (n : Int) ≤ 4096 := by omega
    rw [decide_eq_true h]
    go_enter Try.func53, Try.ntmps53
    go_wp2
    go_ret
    exact ⟨rfl, rfl⟩
  · rw [decide_eq_false h]
    by_cases h1 : (1 : Int) ≤ (n : Int)
    · have h2 : ¬ (n : Int) ≤ 4096 := by omega
      clear h
      go_enter Try.func53, Try.ntmps53
      go_wp2
      go_ret
      exact ⟨rfl, rfl⟩
    · clear h
      go_enter Try.func53, Try.ntmps53
      go_wp2
      go_ret
      exact ⟨rfl, rfl⟩
theorem Clone_any (b off n c : Nat) (f : Nat → Nat) (w : World) (h : ∀ j, j < n → w.cell? ⟨b, off + j, none⟩ = some (.int .u8 (f j : Nat))) (hn : 0 < n) (hn2 : n ≤ 8192) (hb : b < w.heap.size) :
    Calls Try.prog 34 #[.slice (some ⟨b, off, none⟩) n c] w fun e w' => (∃ g cap, e = .returned (.slice (some ⟨g, 0, none⟩) n cap) ∧ (n ≤ cap ∧ cap ≤ maxLen) ∧ RowK 5 .u8 w' g n f ∧ w.heap.size ≤ g) ∧ New w w' := by
  obtain ⟨i0, hi0, hz0, hz1, hz2⟩ := info_parts infoU8
  have hsrc : Hid (∀ j u, (numL .u8 f n)[j]? = some u → (w.alloc (.cells #[] 5)).cell? ((⟨b, off, none⟩ : Addr).add j) = some u) := fun j u hu => by
    have := numL_src h j u hu
    rw [add_cell] at this ⊢
    exact (((New.refl w).alloc _).cell (p := ⟨b, off + j, none⟩) hb).trans this
  have hone := Lib.hid (numL_one .u8 f n)
  have hlen : Hid ((numL .u8 f n).length = n) := numL_len .u8 f n
  have hlit := World.ownsRow_lit (e := 5) (size := 1) w #[] 0 (Nat.le_refl _) (by unfold maxLen; omega) rfl
  have hnb := fun w => Lib.run_eql_slice_nil (P := Try.prog) w 32 5 (some ⟨b, off, none⟩) n c 0 0 Try.underlying32
  clear h
  go_enter Try.func34, Try.ntmps34
  go_wp2_with (at_builtin; refine wpList_append_own _ rfl _ _ 32 rfl w.heap.size 5 i0 _ 1 1 Try.underlying32 hi0 hz0 hz1 hz2 rfl (by decide) (Value.slice (some ⟨w.heap.size, 0, none⟩) 0 0) 0 [] rfl hlit ⟨b, off, none⟩ n c (numL .u8 f n) rfl (by rw [hlen.out]; omega) hsrc.out hone.out (by unfold maxLen; omega) (by omega) (by simp) ?_; intro v3 w3 hown3 hgrow hnil; obtain ⟨g3, c3, rfl, hg3a, hg3b⟩ := hown3.form (by omega))
  have hgA : (w.alloc (.cells #[] 5)).grownBy w3 (some w.heap.size) := hgrow
  have hN : New w w3 := (New.refl w).append' hgA (fun g hg => by cases hg; exact Nat.le_refl _)
  rw [List.nil_append, Nat.zero_add] at hown3
  have hr := RowK.of_own hown3
  have hcap := (own_open hown3)
  obtain ⟨_, _, he, hle, hlm, _⟩ := hcap
  cases he
  have hfin : Hid (RowK 5 .u8 w3 g3 n f ∧ w.heap.size ≤ g3 ∧ (n ≤ c3 ∧ c3 ≤ maxLen) ∧ New w w3) := ⟨hr, hg3a, ⟨hle, hlm⟩, hN⟩
  clear hgrow hnil hown3 hr
  go_ret
  exact ⟨⟨g3, c3, rfl, hfin.out.2.2.1, hfin.out.1, hfin.out.2.1⟩, hfin.out.2.2.2⟩
theorem size_any (LA : Option Addr) (num cl base dr pa ad c Lg p : Nat) (C : Nat → Nat) (w : World) (h : w.ownsRow base 63 4 (.slice LA num cl) num (colL dr pa ad C num)) (hc : c < num) (hn : num ≤ 8) (hC : C c ≤ 32) :
    Calls Try.prog 35 #[.agg #[.slice LA num cl, .int .i64 p, .int .i64 Lg], .int .i64 c] w fun e w' => e = .returned (.int .i64 (128 * C c : Nat)) ∧ New w w' := by
  obtain ⟨A, c', he, _, _, hA, hcell⟩ := own_open h
  cases he
  obtain ⟨g, rfl, _, hg⟩ := hA (by omega)
  have hx := hcell g rfl (c * 4 + 2) _ (by rw [colL_at dr pa ad C num c 2 hc (by omega)]; rfl)
  have hx2 := (((New.refl w).alloc (.cells #[.slice (some ⟨g, 0, none⟩) num cl, .int .i64 p, .int .i64 Lg] 57)).cell (p := ⟨g, c * 4 + 2, none⟩) hg).trans hx
  have hci : (c : Int) < (num : Int) := by omega
  obtain ⟨q, hq⟩ : ∃ q, Hid (q = C c) := ⟨_, rfl⟩
  rw [← hq.out] at hx2 hC ⊢
  clear hA hcell hx h
  go_enter Try.func35, Try.ntmps35
  go_wp2
  go_ret
  exact ⟨ret1 (by omega), (New.refl w).alloc _⟩
theorem filled_any (LA : Option Addr) (num cl p Lg b n c : Nat) (f : Nat → Nat) (w : World) (h : RowK 5 .u8 w b n f) (hn : n ≤ Lg) (hL : Lg ≤ 4096) :
    Calls Try.prog 36 #[.agg #[.slice LA num cl, .int .i64 p, .int .i64 Lg], .slice (some ⟨b, 0, none⟩) n c] w fun e w' => (∃ g, e = .returned (.slice (some ⟨g, 0, none⟩) Lg Lg) ∧ RowK 5 .u8 w' g Lg (fun k => if k < n then f k else 0) ∧ w.heap.size ≤ g) ∧ New w w' := by
  have hmk := run_make_row' (P := Try.prog) 32 5 (.int .u8 0) 1 Try.underlying32 infoU8 rfl .i64 .i64 Lg (by omega) (by omega)
  obtain ⟨bx, hbx⟩ : ∃ bx : Obj, bx = .cells #[.slice LA num cl, .int .i64 p, .int .i64 Lg] 57 := ⟨_, rfl⟩
  have hN1 : New w (w.alloc bx) := (New.refl w).alloc _
  have hr2 : ∀ j, j < n → ((w.alloc bx).alloc (.cells (madeCells #[.int .u8 0] Lg) 5)).cell? ⟨b, 0 + j, none⟩ = some (.int .u8 (f j : Nat)) := fun j hj => by
    rw [Nat.zero_add]
    exact (h.new (hN1.alloc _)).cell hj
  have hmade : ((w.alloc bx).alloc (.cells (madeCells #[.int .u8 0] Lg) 5)).rowIs (w.heap.size + 1) 5 Lg (fun _ => .int .u8 0) := by
    have := World.rowIs_made (w.alloc bx) (.int .u8 0) Lg 5
    simpa using this
  rw [hbx] at hmade hr2 hN1
  replace hmade := Lib.hid hmade
  replace hr2 := Lib.hid hr2
  have hszI : Hid ((Try.prog.info? 5).map (·.size) = some 1) := by
    show _ = _
    kernel_rfl
  have hmin : Hid (n = Nat.min n Lg) := (Nat.min_eq_left hn).symm
  clear h hbx bx
  go_enter Try.func36, Try.ntmps36
  go_wp2_with (with_reducible refine wpList_copy_rowIs rfl (.tmp 9) (.tmp 10) 32 32 rfl 5 Try.underlying32 hszI.out (w.heap.size + 1) 0 Lg 5 _ hmade.out (some ⟨w.heap.size + 1, 0, none⟩) (some ⟨b, 0, none⟩) Lg Lg n c n (fun j => .int .u8 (f j : Nat)) rfl rfl hmin.out (fun _ => ⟨rfl, b, 0, rfl, hr2.out⟩) (by omega) (fun j _ => rfl) ?_; intro w2 hr3 hg2)
  have hN2 : New w w2 := (hN1.alloc _).grown1 hg2 (by omega)
  have hrow : Hid (RowK 5 .u8 w2 (w.heap.size + 1) Lg (fun k => if k < n then f k else 0)) := RowK.of_rowIs hr3.out (Nat.le_refl _) fun j hj => by
    unfold cpF
    by_cases e : j < n
    · rw [if_pos ⟨Nat.zero_le _, by omega⟩, if_pos e]; rfl
    · rw [if_neg (by omega), if_neg e]; rfl
  go_ret
  exact ⟨⟨_, rfl, hrow.out, by omega⟩, hN2⟩
end Go.Proofs.Ytjmjnodaohbpfaa.stripe
