/-
  Contract of a version's read.
-/
import Derived.Test.YtiffgeglbafenaaTreeRead
import Derived.Lib.MinMax
namespace Go.Proofs.Ytiffgeglbafenaa.tree
open Go.ChangeShapes Go.WideShapes Go.ChangeAt Go.RowKit Go.Proofs.Ytiffgeglbafenaa.kit Go.Deep
set_option linter.unusedVariables false
set_option maxRecDepth 100000
/-- bytes of an answer -/
def DatT (w : World) (v : Value) (l : Nat) (d : Nat → Nat) : Prop := ∃ A cap, v = .slice A l cap ∧ l ≤ cap ∧ cap ≤ maxLen ∧ ((A = none ∧ l = 0) ∨ ∃ b, A = some ⟨b, 0, none⟩ ∧ RowK 5 .u8 w b l d)
theorem DatT.nil (w : World) (d : Nat → Nat) : DatT w (.slice none 0 0) 0 d := ⟨none, 0, rfl, Nat.le_refl _, Nat.zero_le _, .inl ⟨rfl, rfl⟩⟩
theorem DatT.keep {w w' : World} {v : Value} {l : Nat} {d : Nat → Nat} (h : DatT w v l d) (hk : ∀ b f, RowK 5 .u8 w b l f → w'.heap[b]? = w.heap[b]?) : DatT w' v l d := by
  obtain ⟨A, cap, h1, h2, h3, h4⟩ := h
  refine ⟨A, cap, h1, h2, h3, ?_⟩
  rcases h4 with h4 | ⟨b, h5, h6⟩
  · exact .inl h4
  · exact .inr ⟨b, h5, h6.block (hk b d h6)⟩
theorem DatT.new {w w' : World} {v : Value} {l : Nat} {d : Nat → Nat} (h : DatT w v l d) (hn : New w w') : DatT w' v l d := h.keep fun b f hr => hn.block b hr.lt
theorem DatT.alt {K : Nat → Prop} {w w' : World} {v : Value} {l : Nat} {d : Nat → Nat} (h : DatT w v l d) (ha : Alt K w w') (hK : ∀ b cs, Blk w b 5 cs → ¬ K b) : DatT w' v l d :=
  h.keep fun b f hr => by
    have hl := hr.lt
    obtain ⟨cs, hcs, _⟩ := hr
    exact ha.same b hl (hK b cs hcs)
theorem DatT.grown {w w' : World} {row : Option Nat} {v : Value} {l : Nat} {d : Nat → Nat} (h : DatT w v l d) (hg : w.grownBy w' row) (hr : ∀ b cs, Blk w b 5 cs → row ≠ some b) : DatT w' v l d :=
  h.keep fun b f hk => by
    have hl := hk.lt
    obtain ⟨cs, hcs, _⟩ := hk
    exact hg.block b hl (Ne.symm (hr b cs hcs))
theorem DatT.read {w : World} {v : Value} {l : Nat} {d : Nat → Nat} (h : DatT w v l d) : ∃ A c, v = .slice A l c ∧ RdI .u8 w A l (fun i => (d i : Nat)) := by
  obtain ⟨A, cap, rfl, h2, h3, h4⟩ := h
  refine ⟨A, cap, rfl, Nat.le_trans h2 h3, fun h0 => ?_⟩
  rcases h4 with h4 | ⟨b, rfl, h6⟩
  · omega
  · exact ⟨b, 0, rfl, h6.lt, fun i hi => by rw [Nat.zero_add]; exact h6.cell hi⟩
theorem Show_any (sz off cnt c : Nat) (v : Value) (P : Nat → Prop) (f : Nat → Nat) (w : World) (hT : Tr w P c (lvl sz) v f) (hsz : sz ≤ 4096) :
    Calls Try.prog 27 #[.agg #[v, .int .i64 (sz : Nat)], .int .i64 (off : Nat), .int .i64 (cnt : Nat)] w fun e w' => (∃ v', e = .returned v' ∧ DatT w' v' (if sz ≤ off then 0 else min cnt (sz - off)) (fun i => f (off + i))) ∧ New w w' := by
  by_cases ho : sz ≤ off
  · rw [if_pos ho]
    have hfin : Hid (DatT (w.alloc (.cells #[v, .int .i64 sz] 78)) (.slice none 0 0) 0 (fun i => f (off + i)) ∧ New w (w.alloc (.cells #[v, .int .i64 sz] 78))) := ⟨DatT.nil _ _, (New.refl w).alloc _⟩
    have ho' : (sz : Int) ≤ (off : Int) := by omega
    clear hT ho
    go_enter Try.func27, Try.ntmps27
    go_wp2
    go_ret
    exact ⟨⟨_, rfl, hfin.out.1⟩, hfin.out.2⟩
  · rw [if_neg ho]
    obtain ⟨q, hq⟩ : ∃ q, Hid (q = min cnt (sz - off)) := ⟨_, rfl⟩
    rw [← hq.out]
    have hq1 : q ≤ 4096 := by rw [hq.out]; omega
    have hqm : min (cnt : Int) ((sz : Int) - (off : Int)) = (q : Int) := by rw [hq.out]; omega
    have hqo : off + q ≤ sz := by rw [hq.out]; omega
    have ho' : ¬ (sz : Int) ≤ (off : Int) := by omega
    have hmk := run_make_row' (P := Try.prog) 42 5 (.int .u8 0) 1 Try.underlying42 infoU8 rfl .i64 .i64 q (by omega) (by omega)
    obtain ⟨p, rfl⟩ := hT.isP
    obtain ⟨W1, hW1⟩ : ∃ W1, W1 = (w.alloc (.cells #[.pointer p, .int .i64 sz] 78)).alloc (.cells (madeCells #[.int .u8 0] q) 5) := ⟨_, rfl⟩
    have hn1 : New w W1 := by rw [hW1]; exact ((New.refl w).alloc _).alloc _
    have hv : Hid (Blk W1 w.heap.size 78 #[.pointer p, .int .i64 sz]) := by show Blk _ _ _ _; rw [hW1]; exact (Blk.fresh w _ _).alloc _
    have hrow : Hid (W1.rowIs (w.heap.size + 1) 5 q (byteV fun _ => 0)) := by
      have := World.rowIs_made (w.alloc (.cells #[.pointer p, .int .i64 sz] 78)) (.int .u8 0) q 5
      show World.rowIs _ _ _ _ _
      rw [hW1]
      have h2 := this.congr (g := byteV fun _ => 0) fun i _ => rfl
      simpa only [World.size_alloc] using h2
    have hread : Hid (Calls Try.prog 36 #[.pointer p, .int .i64 ((0 : Nat) : Int), .int .i64 (off : Int), .slice (some ⟨w.heap.size + 1, 0, none⟩) q q] W1 (ReadP (w.heap.size + 1) q (outF 0 off (roomN (lvl sz)) f (fun _ => 0)) W1)) :=
      read_any (lvl sz) (lvl_le sz) 0 off (w.heap.size + 1) q q (.pointer p) P c f (fun _ => 0) W1 (hT.new hn1) hrow.out (by have := roomN_le (lvl_le sz); omega) (by omega) (by omega) (fun _ _ _ _ => rfl)
    have hroom := lvl_room hsz
    have hn1H := Lib.hid hn1
    clear hT ho hn1
    go_enter Try.func27, Try.ntmps27
    go_upto_region 4 with fail
    rw [← hW1]
    clear hW1
    have v0 := hv.out.cell 0
    simp at v0
    clear hmk
    go_wp2_with fail
    refine hread.out.mono ?_
    rintro x w3 ⟨⟨u, rfl⟩, hr3, hg3⟩
    dsimp only
    have hfin : Hid (DatT w3 (.slice (some ⟨w.heap.size + 1, 0, none⟩) q q) q (fun i => f (off + i)) ∧ New w w3) := by
      refine ⟨⟨_, q, rfl, Nat.le_refl _, by unfold maxLen; omega, .inr ⟨_, rfl, RowK.of_rowIs hr3 (Nat.le_refl _) fun j hj => ?_⟩⟩, hn1H.out.grown1 hg3 (by omega)⟩
      unfold byteV outF
      rw [if_pos (by omega), Nat.sub_zero]
    clear hr3 hg3 hread v0
    go_wp2
    go_ret
    exact ⟨⟨_, rfl, hfin.out.1⟩, hfin.out.2⟩
end Go.Proofs.Ytiffgeglbafenaa.tree
