/-
  Contracts: bytes that lie in memory: size, read, write, resize; fetch.
-/
import Derived.Test.YtmpaheaedaeakaaPoolNames
namespace Go.Proofs.Ytmpaheaedaeakaa.pool
open Go.ChangeShapes Go.WideShapes Go.ChangeAt Go.RowKit Go.Proofs.Ytmpaheaedaeakaa.kit Go.Deep Go.Maps
set_option linter.unusedVariables false
set_option maxRecDepth 100000
theorem infoU8 : (Try.prog.info? 5).map (fun i => (i.zero, i.size, i.bytes)) = some (some (.int .u8 0), 1, 1) := by kernel_rfl
theorem no_any (cd : Int) (w : World) : Calls Try.prog 12 #[.int .i64 cd] w fun e w' => e = .returned (.agg #[.int .i64 cd, .bool false, .int .i64 0, .slice none 0 0, .slice none 0 0]) ∧ New w w' := by
  obtain ⟨W1, hW1⟩ : ∃ W1, W1 = w.alloc (.cells #[.int .i64 0, .bool false, .int .i64 0, .slice none 0 0, .slice none 0 0] 37) := ⟨_, rfl⟩
  have hr : Blk W1 w.heap.size 37 #[.int .i64 0, .bool false, .int .i64 0, .slice none 0 0, .slice none 0 0] := by rw [hW1]; exact Blk.fresh w _ _
  have hn := Lib.hid (show New w W1 by rw [hW1]; exact (New.refl w).alloc _)
  go_enter Try.func12, Try.ntmps12
  go_upto_region 1 with fail
  rw [← hW1]
  clear hW1
  have r0 := hr.cell 0
  have r1 := hr.cell 1
  have r2 := hr.cell 2
  have r3 := hr.cell 3
  have r4 := hr.cell 4
  have z0 := hr.frozen 0
  have z1 := hr.frozen 1
  have z2 := hr.frozen 2
  have z3 := hr.frozen 3
  have z4 := hr.frozen 4
  simp at r0 r1 r2 r3 r4
  have hb := ((((hr.put 0 (.int .i64 cd)).put 1 (.bool false)).put 2 (.int .i64 0)).put 3 (.slice none 0 0)).put 4 (.slice none 0 0)
  have x0 := hb.cell 0
  have x1 := hb.cell 1
  have x2 := hb.cell 2
  have x3 := hb.cell 3
  have x4 := hb.cell 4
  simp at x0 x1 x2 x3 x4
  have hx := Lib.hid (And.intro x0 (And.intro x1 (And.intro x2 (And.intro x3 x4))))
  clear x0 x1 x2 x3 x4 hb
  go_wp2
  exact bodyPost_ret (v := .agg #[.int .i64 cd, .bool false, .int .i64 0, .slice none 0 0, .slice none 0 0]) (by simp [results, Try.results12, go_sem, hx.out.1, hx.out.2.1, hx.out.2.2.1, hx.out.2.2.2.1, hx.out.2.2.2.2]) rfl ⟨rfl, ((((hn.out.set (Nat.le_refl _) _).set (Nat.le_refl _) _).set (Nat.le_refl _) _).set (Nat.le_refl _) _).set (Nat.le_refl _) _⟩
theorem Size_any (v : Value) (b : By) (w : World) (h : Bs w v b) : Calls Try.prog 79 #[v] w fun e w' => e = .returned (.int .i64 (b.n : Nat)) ∧ w = w' := by
  obtain ⟨A, c, rfl, _⟩ := h
  go_enter Try.func79, Try.ntmps79
  go_wp2
  go_ret
  exact ⟨rfl, rfl⟩
/-- slices.Clone of bytes -/
theorem Clone_bytes (A : Option Addr) (n c : Nat) (f : Nat → Nat) (w : World) (h : RdI .u8 w A n (fun i => (f i : Nat))) (hA : A = none → c = 0) (hn : n ≤ 8192) :
    Calls Try.prog 81 #[.slice A n c] w fun e w' => ∃ v, e = .returned v ∧ Bs w' v ⟨n, f⟩ ∧ New w w' := by
  obtain ⟨i0, hi0, hz0, hz1, hz2⟩ := info_parts infoU8
  cases A with
  | none =>
    have hn0 : n = 0 := by
      rcases Nat.eq_zero_or_pos n with h0 | h0
      · exact h0
      · obtain ⟨b, off, e, _⟩ := h.2 h0
        cases e
    subst hn0
    obtain rfl := hA rfl
    have hb : Hid (Bs w (.slice none 0 0) ⟨0, f⟩) := (Bs.nil w).congr rfl fun i hi => absurd hi (Nat.not_lt_zero i)
    clear h hA
    have hnb := fun w => Lib.run_eql_slice_nil (P := Try.prog) w 32 5 none 0 0 0 0 Try.underlying32
    go_enter Try.func81, Try.ntmps81
    go_wp2
    go_ret
    exact ⟨_, rfl, hb.out, New.refl w⟩
  | some a =>
    have hnb := fun w => Lib.run_eql_slice_nil (P := Try.prog) w 32 5 (some a) n c 0 0 Try.underlying32
    have hlit := World.ownsRow_lit (e := 5) (size := 1) w #[] 0 (Nat.le_refl _) (by unfold maxLen; omega) rfl
    have hsrc : Hid (∀ j u, (numL .u8 f n)[j]? = some u → (w.alloc (.cells #[] 5)).cell? (a.add j) = some u) := fun j u hu => by
      have hjn : j < n := by
        have := (List.getElem?_eq_some_iff.1 hu).1
        rwa [numL_len] at this
      obtain ⟨b, off, e, hb, hc⟩ := h.2 (by omega)
      cases e
      have := numL_src (k := .u8) (f := f) hc j u hu
      rw [add_cell] at this ⊢
      exact (((New.refl w).alloc _).cell (p := ⟨b, off + j, none⟩) hb).trans this
    have hone := Lib.hid (numL_one .u8 f n)
    have hlen : Hid ((numL .u8 f n).length = n) := numL_len .u8 f n
    clear h hA
    go_enter Try.func81, Try.ntmps81
    go_wp2_with (at_builtin; refine wpList_append_own _ rfl _ _ 32 rfl w.heap.size 5 i0 _ 1 1 Try.underlying32 hi0 hz0 hz1 hz2 rfl (by decide) (Value.slice (some ⟨w.heap.size, 0, none⟩) 0 0) 0 [] rfl hlit a n c (numL .u8 f n) rfl (by rw [hlen.out]; omega) hsrc.out hone.out (by unfold maxLen; omega) (by omega) (by simp) ?_; intro v3 w3 hown3 hgrow hnil)
    have hgA : (w.alloc (.cells #[] 5)).grownBy w3 (some w.heap.size) := hgrow
    have hN : New w w3 := (New.refl w).append' hgA (fun g hg => by cases hg; exact Nat.le_refl _)
    rw [List.nil_append, Nat.zero_add] at hown3
    have hfin := Lib.hid (And.intro (Bs.own hown3) hN)
    clear hgrow hnil hown3 hgA hN
    go_wp2
    go_ret
    exact ⟨_, rfl, hfin.out.1, hfin.out.2⟩
end Go.Proofs.Ytmpaheaedaeakaa.pool
