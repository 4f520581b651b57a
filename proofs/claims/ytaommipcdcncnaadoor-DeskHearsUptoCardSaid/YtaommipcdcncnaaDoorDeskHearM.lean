/-
  Rows of texts in memory: tails of them, copies of them, the laws' comparison of them.
-/
import Derived.Test.YtaommipcdcncnaaDoorDeskHearP
import Derived.Test.YtaommipcdcncnaaDoorDeskShelf2
import Derived.Test.YtaommipcdcncnaaDoorDeskReadP
import Derived.Test.YtaommipcdcncnaaDoorDeskSameC
namespace Go.Proofs.YtaommipcdcncnaaDoor.desk
open Go.ChangeShapes Go.WideShapes Go.ChangeAt Go.RowKit Go.Proofs.YtaommipcdcncnaaDoor.kit Go.Deep
set_option linter.unusedVariables false
set_option maxRecDepth 100000
theorem sl_tail (H o m j : Nat) (ji : Int) (hj : ji = (j : Nat)) (h : j ≤ m) : ∃ o', (∀ w', (Instr.slice 24 (.slice (some ⟨H, o, none⟩) m m) (some (.int .i64 ji)) none none).run Tryd.prog w' = .ok (.slice (some ⟨H, o', none⟩) (m - j) (m - j)) w') ∧ (j < m → o' = o + j) := by
  subst hj
  have he : Tryd.prog.elem 24 = 9 := by kernel_rfl
  have hs : ∀ w', (sizeOf 9).run Tryd.prog w' = .ok 1 w' := fun w' => Tryd.sizeOf9 w'
  refine ⟨if m = j then o else o + j, fun w' => ?_, fun h => by rw [if_neg (by omega)]⟩
  rw [run_slice_l (P := Tryd.prog) (w := w') 24 (some ⟨H, o, none⟩) m m (by rw [he]; exact Tryd.underlying24) .i64 (j : Nat) (by omega) (by omega), he, hs w']
  simp only [Result.andThen, sliced, Int.toNat_natCast]
  split
  · rfl
  · simp [Addr.add]
theorem getD_drop (P : List Tx) (o i : Nat) : (P.drop o).getD i [] = P.getD (o + i) [] := by simp [List.getD, List.getElem?_drop]
theorem own_rdS {w : World} {base n c : Nat} {B : Option Addr} {l : List Nm} (h : w.ownsRow base 9 1 (.slice B n c) n (l.map encStr)) (hl : l.length ≤ 1048576) (hs : ∀ s, s ∈ l → s.length ≤ 1048576) : RdS w B l := by
  have hn : l.length = n := by have := h.1; simpa using this
  refine ⟨hl, fun h0 => ?_, hs⟩
  rcases h.2 with ⟨h1, h2⟩ | ⟨g, cap, cur, h1, _, hg, _⟩
  · omega
  · injection h1 with e1 e2 e3
    subst e1
    subst e3
    refine ⟨g, 0, rfl, (Array.getElem?_eq_some_iff.1 hg).1, fun i hi => ?_⟩
    have h2 := World.ownsRow.cells h (g := g) rfl i (encStr (l.getD i [])) (by
      rw [List.getElem?_map, List.getElem?_eq_getElem hi, List.getD, List.getElem?_eq_getElem hi]
      rfl)
    rw [add_cell] at h2
    exact h2
theorem own_len {w : World} {base n c : Nat} {B : Option Addr} {l : List Nm} (h : w.ownsRow base 9 1 (.slice B n c) n (l.map encStr)) : l.length = n := by
  have := h.1
  simpa using this
theorem clone_any (B : Option Addr) (e : Nat) (l : List Nm) (w : World) (h : RdS w B l) :
    Calls Tryd.prog 39 #[.slice B l.length e] w fun e' w' => ∃ B' c', e' = .returned (.slice B' l.length c') ∧ w'.ownsRow w.heap.size 9 1 (.slice B' l.length c') l.length (l.map encStr) ∧ New w w' := by
  by_cases h0 : l.length = 0
  · have hl : l = [] := List.length_eq_zero_iff.1 h0
    subst hl
    cases B with
    | none =>
      refine (sh_slices_Clone_string_nil 0 e w).mono ?_
      rintro e' w' ⟨rfl, rfl⟩
      exact ⟨none, 0, rfl, ⟨rfl, .inl ⟨rfl, rfl⟩⟩, New.refl _⟩
    | some a =>
      refine (sh_slices_Clone_string_zero a e w).mono ?_
      rintro e' w' ⟨v', rfl, ho, _, hn⟩
      obtain ⟨R, c, rfl⟩ := own_slice ho
      exact ⟨R, c, rfl, ho, hn⟩
  · obtain ⟨g, off, rfl, hg, hc⟩ := h.2.1 (by omega)
    have hz : (l.map fun s : Nm => (⟨s.toArray⟩ : ByteArray)).length = l.length := by simp
    refine (sh_slices_Clone_string g off l.length e (l.map fun s : Nm => (⟨s.toArray⟩ : ByteArray)) w (by rw [hz]; exact Nat.le_refl _) (by have := h.1; omega) fun j hj => ?_).mono ?_
    · rw [hz] at hj
      rw [hc j hj]
      simp [List.getD, hj, encStr]
    · rintro e' w' ⟨v', rfl, ho, _, hn⟩
      obtain ⟨R, c, rfl⟩ := own_slice ho
      have e1 : ((l.map fun s : Nm => (⟨s.toArray⟩ : ByteArray)).take l.length).map Value.string = l.map encStr := by
        rw [List.take_of_length_le (by rw [hz]; exact Nat.le_refl _), List.map_map]
        rfl
      rw [e1] at ho
      exact ⟨R, c, rfl, ho, hn⟩
theorem sameTexts_eq (A B : Option Addr) (c d : Nat) (l : List Nm) (w : World) (hY : RdS w A l) (hZ : RdS w B l) :
    Calls Tryd.prog 40 #[.slice A l.length c, .slice B l.length d] w fun e w' => e = .returned (.bool true) ∧ New w w' := by
  have hm := hY.1
  obtain ⟨n, hnl⟩ : ∃ n, Hid (n = l.length) := ⟨_, rfl⟩
  have hY1 : Hid (0 < n → ∃ g off, A = some ⟨g, off, none⟩ ∧ g < w.heap.size ∧ ∀ i, i < n → w.cell? ⟨g, off + i, none⟩ = some (encStr (l.getD i []))) := by
    rw [hnl.out]
    exact hY.2.1
  have hZ1 : Hid (0 < n → ∃ g off, B = some ⟨g, off, none⟩ ∧ g < w.heap.size ∧ ∀ i, i < n → w.cell? ⟨g, off + i, none⟩ = some (encStr (l.getD i []))) := by
    rw [hnl.out]
    exact hZ.2.1
  rw [← hnl.out] at hm ⊢
  clear hY hZ
  go_enter Tryd.func40, Tryd.ntmps40
  go_wp2
  go_loopw [5] (fun k wr => ∃ i : Nat, k = .int .i64 i ∧ i ≤ n ∧ New w wr) (fun k _ => n - (intOf k).toNat)
  case atStart => exact ⟨0, rfl, by omega, New.refl w⟩
  case round =>
    obtain ⟨i, rfl, hi, hnw⟩ := hrel
    by_cases hlt : i < n
    · obtain ⟨b, off, rfl, hb, hcs⟩ := hY1.out (by omega)
      obtain ⟨b', off', rfl, hb', hcs'⟩ := hZ1.out (by omega)
      have c0 := (hnw.cell (p := ⟨b, off + i, none⟩) hb).trans (hcs i hlt)
      have c1 := (hnw.cell (p := ⟨b', off' + i, none⟩) hb').trans (hcs' i hlt)
      obtain ⟨x, hx⟩ : ∃ x, Hid (x = l.getD i []) := ⟨_, rfl⟩
      rw [← hx.out] at c0 c1
      clear hcs hcs'
      go_wp2
      go_quiet (fail)
      go_wp2
      go_roundw
      case rel => exact ⟨i + 1, by go_num, by omega, hnw.drewN _⟩
      case measure => simp [intOf]; omega
    · have hin : i = n := by omega
      subst hin
      go_wp2
      go_ret
      exact ⟨rfl, hnw⟩
theorem sameTold_eq (code size : Int) (dn : Bool) (A A' : Option Addr) (n c c' : Nat) (f f' : Nat → Nat) (B B' : Option Addr) (e e' : Nat) (l : List Nm) (w : World) (hY : RdI .u8 w A n (fun i => (f i : Nat))) (hZ : RdI .u8 w A' n (fun i => (f' i : Nat))) (hs : ∀ i, i < n → f i = f' i) (hB : RdS w B l) (hB' : RdS w B' l) :
    Calls Tryd.prog 16 #[.agg #[.int .i64 code, .bool dn, .int .i64 size, .slice A n c, .slice B l.length e], .agg #[.int .i64 code, .bool dn, .int .i64 size, .slice A' n c', .slice B' l.length e']] w fun e w' => e = .returned (.bool true) ∧ New w w' := by
  obtain ⟨m, hm⟩ : ∃ m, Hid (m = l.length) := ⟨_, rfl⟩
  obtain ⟨W1, hW1⟩ : ∃ W1, W1 = (w.alloc (.cells #[.int .i64 code, .bool dn, .int .i64 size, .slice A n c, .slice B m e] 26)).alloc (.cells #[.int .i64 code, .bool dn, .int .i64 size, .slice A' n c', .slice B' m e'] 26) := ⟨_, rfl⟩
  have hN1 : Hid (New w W1) := by show New _ _; rw [hW1]; exact ((New.refl w).alloc _).alloc _
  have hb1 : Hid (Blk W1 w.heap.size 26 #[.int .i64 code, .bool dn, .int .i64 size, .slice A n c, .slice B m e]) := by show Blk _ _ _ _; rw [hW1]; exact (Blk.fresh _ _ _).alloc _
  have hb2 : Hid (Blk W1 (w.heap.size + 1) 26 #[.int .i64 code, .bool dn, .int .i64 size, .slice A' n c', .slice B' m e']) := by
    show Blk _ _ _ _
    rw [hW1]
    have h := Blk.fresh (w.alloc (.cells #[.int .i64 code, .bool dn, .int .i64 size, .slice A n c, .slice B m e] 26)) 26 #[.int .i64 code, .bool dn, .int .i64 size, .slice A' n c', .slice B' m e']
    simpa using h
  have hS : Hid (∀ w', New W1 w' → Calls Tryd.prog 38 #[.slice A n c, .slice A' n c'] w' fun e w'' => e = .returned (.bool true) ∧ New w' w'') := fun w' hn => sameBytes_eq A A' n c c' _ _ w' (hY.new (hN1.out.next hn)) (hZ.new (hN1.out.next hn)) (fun i hi => by rw [hs i hi])
  have hT : Hid (∀ w', New W1 w' → Calls Tryd.prog 40 #[.slice B m e, .slice B' m e'] w' fun e w'' => e = .returned (.bool true) ∧ New w' w'') := fun w' hn => by
    rw [hm.out]
    exact sameTexts_eq B B' e e' l w' (hB.new (hN1.out.next hn)) (hB'.new (hN1.out.next hn))
  rw [← hm.out]
  have hk : Hid (∀ w', New W1 w' → (w'.cell? ⟨w.heap.size, 4, none⟩ = some (.slice B m e)) ∧ (w'.cell? ⟨w.heap.size + 1, 4, none⟩ = some (.slice B' m e'))) := fun w' hn => ⟨by rw [(hb1.out.new hn).cell]; rfl, by rw [(hb2.out.new hn).cell]; rfl⟩
  have x0 := hb1.out.cell 0
  have x1 := hb1.out.cell 1
  have x2 := hb1.out.cell 2
  have x3 := hb1.out.cell 3
  have x4 := hb1.out.cell 4
  have y0 := hb2.out.cell 0
  have y1 := hb2.out.cell 1
  have y2 := hb2.out.cell 2
  have y3 := hb2.out.cell 3
  have y4 := hb2.out.cell 4
  simp at x0 x1 x2 x3 x4 y0 y1 y2 y3 y4
  clear hY hZ hB hB' hs
  go_enter Tryd.func16, Tryd.ntmps16
  go_upto_region 1 with fail
  rw [← hW1]
  clear hW1
  go_wp2_with (first
  | (go_at_call 38; refine (hS.out _ (New.refl _)).mono ?_; rintro e w3 ⟨rfl, hn3⟩
     have hn3 := Lib.hid hn3
     obtain ⟨k1, k2⟩ := hk.out w3 hn3.out)
  | (go_at_call 40; refine (hT.out _ hn3.out).mono ?_; rintro e w4 ⟨rfl, hn4⟩; have hn4 := Lib.hid hn4))
  exact bodyPost_ret (v := .bool true) (by simp [results, Tryd.results16, go_sem]) rfl ⟨rfl, (hN1.out.next hn3.out).next hn4.out⟩
end Go.Proofs.YtaommipcdcncnaaDoor.desk
