/-
  Contracts: resize, write.
-/
import Derived.Test.YtmpaheaedaeakaaPoolRead
namespace Go.Proofs.Ytmpaheaedaeakaa.pool
open Go.ChangeShapes Go.WideShapes Go.ChangeAt Go.RowKit Go.Proofs.Ytmpaheaedaeakaa.kit Go.Deep Go.Maps
set_option linter.unusedVariables false
set_option maxRecDepth 100000
theorem Resize_any (v : Value) (b : By) (m : Nat) (w : World) (h : Bs w v b) (hb : b.n ≤ 1024) (hm : m ≤ 1024) :
    Calls Try.prog 78 #[v, .int .i64 (m : Nat)] w fun e w' => ∃ A c, e = .returned (.tuple #[.slice A m c, .int .i64 0]) ∧ Bs w' (.slice A m c) (sizeB b m) ∧ New w w' := by
  obtain ⟨A, c, rfl, hnc, hcm, hA, hrd⟩ := h.read
  have hmk := run_make_row' (P := Try.prog) 32 5 (.int .u8 0) 1 Try.underlying32 infoU8 rfl .i64 .i64 m (by omega) (by omega)
  have hN1 : New w (w.alloc (.cells (madeCells #[.int .u8 0] m) 5)) := (New.refl w).alloc _
  have hmade : Hid ((w.alloc (.cells (madeCells #[.int .u8 0] m) 5)).rowIs w.heap.size 5 m (fun _ => .int .u8 0)) := World.rowIs_made w (.int .u8 0) m 5
  have hszI : Hid ((Try.prog.info? 5).map (·.size) = some 1) := by
    show _ = _
    kernel_rfl
  obtain ⟨q, hq⟩ : ∃ q, Hid (q = Nat.min b.n m) := ⟨_, rfl⟩
  have hqm : q ≤ m := by rw [hq.out]; exact Nat.min_le_right _ _
  have hqn : q ≤ b.n := by rw [hq.out]; exact Nat.min_le_left _ _
  have hsrc : Hid (0 < q → ∃ g o, A = some ⟨g, o, none⟩ ∧ ∀ j, j < q → (w.alloc (.cells (madeCells #[.int .u8 0] m) 5)).cell? ⟨g, o + j, none⟩ = some (.int .u8 (b.f j : Nat))) := fun h0 => by
    obtain ⟨g, o, e, hg, hc⟩ := hrd.2 (by omega)
    exact ⟨g, o, e, fun j hj => (hN1.cell (p := ⟨g, o + j, none⟩) hg).trans (hc j (by omega))⟩
  have hfin : Hid (∀ w2, w2.rowIs w.heap.size 5 m (cpF 0 q (fun j => .int .u8 (b.f j : Nat)) (fun _ => .int .u8 0)) → Bs w2 (.slice (some ⟨w.heap.size, 0, none⟩) m m) (sizeB b m)) := fun w2 hr => by
    refine Bs.rowIs hr (by unfold maxLen; omega) fun i hi => ?_
    unfold cpF
    dsimp only
    have hq' := hq.out
    rw [show Nat.min b.n m = min b.n m from rfl] at hq'
    by_cases e : i < b.n
    · rw [if_pos ⟨Nat.zero_le _, by omega⟩, if_pos e]
      rfl
    · rw [if_neg (by omega), if_neg e]
      rfl
  obtain ⟨n, hn⟩ : ∃ n, Hid (n = b.n) := ⟨_, rfl⟩
  rw [← hn.out] at hq hnc hb hqn ⊢
  clear hrd h hA
  go_enter Try.func78, Try.ntmps78
  go_wp2_with (with_reducible refine wpList_copy_rowIs rfl (.tmp 9) (.tmp 10) 32 32 rfl 5 Try.underlying32 hszI.out w.heap.size 0 m 5 _ hmade.out (some ⟨w.heap.size, 0, none⟩) A m m n c q (fun j => .int .u8 (b.f j : Nat)) rfl rfl hq.out (fun h0 => ⟨rfl, by obtain ⟨g, o, e, hc⟩ := hsrc.out h0; exact ⟨g, o, e, hc⟩⟩) (by omega) (fun j _ => rfl) ?_; intro w2 hr3 hg2)
  have hN2 : New w w2 := (hN1.grown1 hg2 (Nat.le_refl _))
  have hB := Lib.hid (hfin.out w2 hr3.out)
  clear hg2
  exact bodyPost_ret (v := .tuple #[.slice (some ⟨w.heap.size, 0, none⟩) m m, .int .i64 0]) (by simp [results, Try.results78, go_sem]) rfl ⟨_, _, rfl, hB.out, hN2⟩
theorem Write_any (v : Value) (b : By) (off dn dc : Nat) (R : Option Addr) (d : Nat → Nat) (w : World) (h : Bs w v b) (hb : b.n ≤ 1024) (hd : 1 ≤ dn) (ho : off + dn ≤ 1024) (hR : RdI .u8 w R dn (fun i => (d i : Nat))) :
    Calls Try.prog 80 #[v, .int .i64 (off : Nat), .slice R dn dc] w fun e w' => ∃ A c, e = .returned (.tuple #[.slice A (writeB b off dn d).n c, .int .i64 0]) ∧ Bs w' (.slice A (writeB b off dn d).n c) (writeB b off dn d) ∧ New w w' := by
  obtain ⟨A, c, rfl, hnc, hcm, hA, hrd⟩ := h.read
  obtain ⟨m, hm⟩ : ∃ m, m = max b.n (off + dn) := ⟨_, rfl⟩
  have hwn : (writeB b off dn d).n = m := by rw [hm]; rfl
  rw [hwn]
  have hmk := run_make_row' (P := Try.prog) 32 5 (.int .u8 0) 1 Try.underlying32 infoU8 rfl .i64 .i64 m (by omega) (by omega)
  have hN1 : New w (w.alloc (.cells (madeCells #[.int .u8 0] m) 5)) := (New.refl w).alloc _
  have hmade : Hid ((w.alloc (.cells (madeCells #[.int .u8 0] m) 5)).rowIs w.heap.size 5 m (fun _ => .int .u8 0)) := World.rowIs_made w (.int .u8 0) m 5
  have hszI : Hid ((Try.prog.info? 5).map (·.size) = some 1) := by
    show _ = _
    kernel_rfl
  have hsrc : Hid (0 < b.n → ∃ g o, A = some ⟨g, o, none⟩ ∧ ∀ j, j < b.n → (w.alloc (.cells (madeCells #[.int .u8 0] m) 5)).cell? ⟨g, o + j, none⟩ = some (.int .u8 (b.f j : Nat))) := fun h0 => by
    obtain ⟨g, o, e, hg, hc⟩ := hrd.2 (by omega)
    exact ⟨g, o, e, fun j hj => (hN1.cell (p := ⟨g, o + j, none⟩) hg).trans (hc j (by omega))⟩
  have hRH := Lib.hid hR
  have hfin : Hid (∀ w2, w2.rowIs w.heap.size 5 m (cpF off dn (fun j => .int .u8 (d j : Nat)) (cpF 0 b.n (fun j => .int .u8 (b.f j : Nat)) (fun _ => .int .u8 0))) → Bs w2 (.slice (some ⟨w.heap.size, 0, none⟩) m m) (writeB b off dn d)) := fun w2 hr => by
    have := Bs.rowIs (f := (writeB b off dn d).f) hr (by unfold maxLen; omega) fun i hi => by
      unfold cpF writeB
      dsimp only
      by_cases e : off ≤ i ∧ i < off + dn
      · rw [if_pos e, if_pos e]
      · rw [if_neg e, if_neg e]
        by_cases e2 : i < b.n
        · rw [if_pos ⟨Nat.zero_le _, by omega⟩, if_pos e2]
          rfl
        · rw [if_neg (by omega), if_neg e2]
          rfl
    exact this.congr hwn.symm fun i _ => rfl
  obtain ⟨n, hn⟩ : ∃ n, Hid (n = b.n) := ⟨_, rfl⟩
  rw [← hn.out] at hsrc hfin hnc hb hm ⊢
  have hmx : max (n : Int) ((off : Int) + (dn : Int)) = (m : Int) := by omega
  have hnm : n ≤ m := by omega
  have hom : off + dn ≤ m := by omega
  have hm1 : m ≤ 1024 := by omega
  clear hrd h hA hR hm hwn
  go_enter Try.func80, Try.ntmps80
  have hq : Hid (n = Nat.min n m) := (Nat.min_eq_left hnm).symm
  have hq2 : Hid (dn = Nat.min dn (m - off)) := (Nat.min_eq_left (by omega)).symm
  have a1 : (off : Int) ≤ (m : Int) := by omega
  have a2 : off ≤ m := by omega
  have a3 : ¬ m = off := by omega
  go_wp2_with (with_reducible refine wpList_copy_rowIs rfl (.tmp 17) (.tmp 18) 32 32 rfl 5 Try.underlying32 hszI.out w.heap.size 0 m 5 _ hmade.out (some ⟨w.heap.size, 0, none⟩) A m m n c n (fun j => .int .u8 (b.f j : Nat)) rfl rfl hq.out (fun h0 => ⟨rfl, by obtain ⟨g, o, e, hc⟩ := hsrc.out h0; exact ⟨g, o, e, hc⟩⟩) (by omega) (fun j _ => rfl) ?_; intro w2 hr3 hg2)
  have hN2 : New w w2 := (hN1.grown1 hg2 (Nat.le_refl _))
  have hN2H := Lib.hid hN2
  have hsrc2 : Hid (0 < dn → ∃ g o, R = some ⟨g, o, none⟩ ∧ ∀ j, j < dn → w2.cell? ⟨g, o + j, none⟩ = some (.int .u8 (d j : Nat))) := fun h0 => by
    obtain ⟨g, o, e, hg, hc⟩ := hRH.out.2 h0
    exact ⟨g, o, e, fun j hj => (hN2.cell (p := ⟨g, o + j, none⟩) hg).trans (hc j hj)⟩
  clear hg2 hN2 hmk hN1
  obtain ⟨w3, hrun, hr4, hg3⟩ := copy_run (P := Try.prog) (w := w2) 32 31 3 5 Try.underlying32 hszI.out w.heap.size off m 5 _ hr3.out (some ⟨w.heap.size, off, none⟩) R (m - off) (m - off) dn dc dn (fun j => .int .u8 (d j : Nat)) hq2.out (fun h0 => ⟨rfl, by obtain ⟨g, o, e, hc⟩ := hsrc2.out h0; exact ⟨g, o, e, hc⟩⟩) (by omega) (fun j _ => rfl)
  have hN3 := Lib.hid (hN2H.out.grown1 hg3 (Nat.le_refl _))
  have hB := Lib.hid (hfin.out w3 hr4)
  clear hg3 hr4
  go_wp2
  rw [hrun]
  go_wp2
  exact bodyPost_ret (v := .tuple #[.slice (some ⟨w.heap.size, 0, none⟩) m m, .int .i64 0]) (by simp [results, Try.results80, go_sem]) rfl ⟨_, _, rfl, hB.out, hN3.out⟩
end Go.Proofs.Ytmpaheaedaeakaa.pool
