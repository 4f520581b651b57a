/-
  Contract: ownMatrix of the reference, the rows' room told too.
-/
import Derived.Test.YtjmjnodaohbpfaaMatBeside
namespace Go.Proofs.Ytjmjnodaohbpfaa.mat
open Go.ChangeShapes Go.WideShapes Go.ChangeAt Go.RowKit Go.Proofs.Ytjmjnodaohbpfaa.kit Go.Proofs.Ytjmjnodaohbpfaa.gf Go.Deep
set_option linter.unusedVariables false

/-- a block of numbers has c places -/
def CapR (w : World) (g m c : Nat) : Prop := m ≤ c ∧ c ≤ maxLen ∧ ∃ cs : Array Value, w.heap[g]? = some (.cells cs 3 (0, 0)) ∧ cs.size = c
section
variable {w w' : World} {g m c : Nat}
theorem CapR.lt (h : CapR w g m c) : g < w.heap.size := by obtain ⟨_, _, cs, h1, _⟩ := h; exact Blk.lt (t := 3) h1
theorem CapR.block (h : CapR w g m c) (hb : w'.heap[g]? = w.heap[g]?) : CapR w' g m c := by obtain ⟨h1, h2, cs, h3, h4⟩ := h; exact ⟨h1, h2, cs, hb.trans h3, h4⟩
theorem CapR.new (h : CapR w g m c) (hn : New w w') : CapR w' g m c := h.block (hn.block g h.lt)
theorem CapR.grown (h : CapR w g m c) {row : Option Nat} (hg : w.grownBy w' row) (hr : row ≠ some g) : CapR w' g m c := h.block (hg.block g h.lt (Ne.symm hr))
theorem CapR.of_own {base : Nat} {xs : List Value} (h : w.ownsRow base 3 1 (.slice (some ⟨g, 0, none⟩) m c) m xs) : CapR w g m c := by
  rcases h.2 with ⟨h0, _⟩ | ⟨g', cap, cur, hv, hb, hg, h1, h2, h3, h4⟩
  · cases h0
  · cases hv
    exact ⟨h1, h2, cur, hg, by simpa using h3⟩
theorem CapR.more {w0 w1 w2 : World} {k g3 c3 : Nat} {G C : Nat → Nat} {Z : Nat → Nat → Nat} {v : Value} {o : Obj} (h : RowsAt w0 k m G C Z w v) (hc : ∀ j, j < k → CapR w (G j) m (C j)) (hn : New w w1) (hr : CapR w1 g3 m c3)
    (hgr : (w1.alloc o).grownBy w2 v.ownBlock) (hne : v.ownBlock ≠ some g3) : ∀ j, j < k + 1 → CapR w2 (if j = k then g3 else G j) m (if j = k then c3 else C j) := fun j hj => by
  by_cases e : j = k
  · rw [if_pos e, if_pos e]
    exact (hr.new ((New.refl _).alloc o)).grown hgr hne
  · rw [if_neg e, if_neg e]
    exact ((hc j (by omega)).new (hn.alloc o)).grown hgr ((h.row j (by omega)).1.ne_own h.own)
end
def OwnPostC (n m : Nat) (Z : Nat → Nat → Nat) (w : World) (e : Ending) (w' : World) : Prop :=
  ∃ o cap G C, e = .returned (.slice (some ⟨o, 0, none⟩) n cap) ∧ n ≤ cap ∧ Mx w' w.heap.size w'.heap.size o n m G C Z ∧ New w w' ∧ ∀ i, i < n → CapR w' (G i) m (C i)
set_option maxRecDepth 100000 in
set_option maxHeartbeats 1000000 in
theorem ownMatrix_cap (A : Option Addr) (n c m : Nat) (R : Nat → Option Addr) (L C : Nat → Nat) (M : Nat → Nat → Int) (w : World) (h : RdM .i64 w A n R L C M) (hm : mayM n L M = true) (hL : L 0 = m) :
    Calls Try.prog 51 #[.slice A n c] w (OwnPostC n m (fun i k => elN M i k) w) := by
  obtain ⟨hn1, hn8, hrow⟩ := mayM_out hm
  have h0 := Lib.hid h
  have hrow0 := Lib.hid hrow
  have hm1 : 1 ≤ m := by have := (hrow 0 (by omega)).2.1; omega
  have hm8 : m ≤ 8 := by have := (hrow 0 (by omega)).2.2.1; omega
  have hLr : Hid (∀ i, i < n → L i = m) := fun i hi => by rw [(hrow i hi).1, hL]
  obtain ⟨i0, hi0, hz0, hz1, hz2⟩ := info_parts infoInt
  obtain ⟨i1, hj0, hy0, hy1, hy2⟩ := info_parts info30
  clear h hrow hm hL
  go_enter Try.func51, Try.ntmps51
  go_wp2
  go_loopw [8, 3] (fun x s wr => ∃ (i : Nat) (sv : Value) (G C' : Nat → Nat), sv = s ∧ x = .int .i64 i ∧ i ≤ n ∧ Hid (RowsAt w i m G C' (fun i k => elN M i k) wr sv) ∧ Hid (∀ j, j < i → CapR wr (G j) m (C' j))) (fun x _ _ => n - (intOf x).toNat)
  case atStart => exact ⟨0, _, fun _ => 0, fun _ => 0, rfl, rfl, by omega, RowsAt.start w, fun j hj => absurd hj (by omega)⟩
  case round =>
    obtain ⟨i, sv, G, C', rfl, rfl, hi, hrs, hcp⟩ := hrel
    by_cases hlt : i < n
    · have hnw := hrs.out.nw
      obtain ⟨b, off, rfl, hb, hcs⟩ := h0.out.2.1 (by omega)
      have ci := (hnw.cell hb).trans (hcs i hlt)
      obtain ⟨hri, _, _⟩ := h0.out.2.2 i hlt
      obtain ⟨br, offr, hRe, hbr, hcr⟩ := hri.2 (by have := hLr.out i hlt; omega)
      rw [hRe, hLr.out i hlt] at ci
      obtain ⟨f, hf⟩ : ∃ f : Nat → Nat, Hid (f = fun k => elN M i k) := ⟨_, rfl⟩
      have hcr2 : ∀ j, j < m → wr.cell? ⟨br, offr + j, none⟩ = some (.int .i64 (f j : Nat)) := fun j hj => by
        rw [(hnw.cell hbr).trans (hcr j (by have := hLr.out i hlt; omega)), hf.out]
        have := allE_out (hrow0.out i hlt).2.2.2 j (by have := hLr.out i hlt; omega)
        unfold elP at this
        congr 2
        show M i j = ((M i j).toNat : Int)
        omega
      have hsrc := Lib.hid (rd_cells (A := none) hcr2)
      have hnilr := World.ownsRow_nil wr wr.heap.size 3 1
      have hown := hrs.out.own
      have hii : (i : Int) < (n : Int) := by omega
      have hone := Lib.hid (rowL_one f m)
      have hlen : Hid ((rowL f m).length = m) := rowL_len f m
      clear hcs hcr hcr2 hri hRe hbr
      go_wp2_with (first
        | (at_builtin
           refine wpList_append_own _ rfl _ _ 29 rfl wr.heap.size 3 i0 _ 1 8 Try.underlying29 hi0 hz0 hz1 hz2 rfl (by decide) (Value.slice none 0 0) 0 [] rfl hnilr ⟨br, offr, none⟩ m (C i) (rowL f m) rfl (by rw [hlen.out]; omega) hsrc.out hone.out (by unfold maxLen; omega) (by omega) (Nat.le_refl _) ?_
           intro v3 w3 hown3 hgrow hnil
           obtain ⟨g3, c3, rfl, hg3a, hg3b⟩ := hown3.form (by omega))
        | (at_builtin
           refine wpList_append_own _ rfl _ _ 53 rfl w.heap.size 29 i1 _ 1 24 Try.underlying53 hj0 hy0 hy1 hy2 rfl (by decide) _ i (rowsC G C' m i) rfl ((own_new hown (New.of_grown hgrow)).alloc _) ⟨w3.heap.size, 0, none⟩ 1 1 [.slice (some ⟨g3, 0, none⟩) m c3] rfl rfl (World.news_of_block (cs := #[.slice _ _ _]) (t := 29) (fr := (0, 0)) (heap_alloc_new w3 _)) (by simp [Value.oneCell']) (by unfold maxLen; omega) (by omega) (by have := hnw.size; have := (New.of_grown hgrow).size; simp; omega) ?_
           intro v4 w4 hown4 hgrow4 hnil4))
      have hgA : wr.grownBy w3 none := hgrow
      rw [List.nil_append, Nat.zero_add] at hown3
      have hrv : RowV w3 g3 m f := RowV.of_own hown3
      have hcv : CapR w3 g3 m c3 := CapR.of_own hown3
      rw [hf.out] at hrv
      have hc3 : m ≤ c3 ∧ c3 ≤ maxLen := by obtain ⟨_, _, he, hle, hlm, _⟩ := own_open hown3; cases he; exact ⟨hle, hlm⟩
      have hrs2 := Lib.hid (hrs.out.more (New.of_grown hgA) hg3a hrv hown4 hgrow4 hc3)
      have hcp2 : Hid (∀ j, j < i + 1 → CapR w4 (if j = i then g3 else G j) m (if j = i then c3 else C' j)) := CapR.more hrs.out hcp.out (New.of_grown hgA) hcv hgrow4 (hrv.ne_own (own_new hown (New.of_grown hgA)))
      go_roundw
      case rel => exact ⟨i + 1, _, _, _, rfl, by go_num, by omega, hrs2.out, hcp2.out⟩
      case measure => simp [intOf]; omega
    · have hin : i = n := by omega
      subst hin
      have hii : ¬ (i : Int) < (i : Int) := by omega
      obtain ⟨o, cap, rfl, hcap, hmx⟩ := hrs.out.mx (by omega)
      have hpost : Hid (OwnPostC i m (fun i k => elN M i k) w (.returned (.slice (some ⟨o, 0, none⟩) i cap)) wr) := ⟨o, cap, G, C', rfl, hcap, hmx, hrs.out.nw, hcp.out⟩
      clear hmx
      go_wp2
      go_ret
      exact hpost.out
end Go.Proofs.Ytjmjnodaohbpfaa.mat
