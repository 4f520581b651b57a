/-
  Arguments of the type api.Told, with what the bound of the second form's statement gives.
-/
import Derived.Test.YtaommipcdcncnaaDoorDeskTold
import Derived.Test.YtaommipcdcncnaaDoorOpen
import Derived.Test.YtaommipcdcncnaaDoorBulk
import Derived.Deep.Slices
import Derived.SliceStrings
import Derived.SizedLaws
namespace Go.Proofs.YtaommipcdcncnaaDoor.desk
open Go.ChangeShapes Go.WideShapes Go.ChangeAt Go.RowKit Go.Proofs.YtaommipcdcncnaaDoor.kit Go.Joins Go.Deep Go.Proofs.YtaommipcdcncnaaDoor
set_option linter.unusedVariables false
section
variable {H : Type} {enc : TypeId × Value → H} {w : World}
theorem bytes_of {fuel : Nat} {v : Value} {y : DataW H × List MemPlace} (h : DataW.trod enc Tryd.prog w 0 (fun _ => true) true fuel 23 [v] = some y) :
    ∃ (A : Option Addr) (n c : Nat) (f : Nat → Nat), v = .slice A n c ∧ RdI .u8 w A n (fun i => (f i : Nat)) ∧ (∀ i, f i < 256) ∧ n ≤ Rows.uptoBulk y.1 := by
  rcases open_ints Tryd.underlying23 Tryd.underlying5 (by kernel_rfl) h with ⟨hcs, _⟩ | ⟨a, len, cap, zs, hcs, _, hl, hm, hz, hx, hcell, hwz⟩
  · simp at hcs
    subst hcs
    exact ⟨none, 0, 0, fun _ => 0, rfl, ⟨Nat.zero_le _, fun h => absurd h (Nat.lt_irrefl 0)⟩, fun i => by show 0 < 256; decide, Nat.zero_le _⟩
  · simp at hcs
    subst hcs
    simp at hz
    have hb : ∀ i, i < len → 0 ≤ zs.getD i 0 ∧ zs.getD i 0 ≤ 255 := fun i hi => by
      have hi2 : i < zs.length := by omega
      have : zs.getD i 0 = zs[i] := by simp [hi2]
      rw [this]
      exact bounds_u8 (hwz _ (List.getElem_mem hi2))
    refine ⟨some a, len, cap, fun i => if i < len then (zs.getD i 0).toNat else 0, rfl, ⟨by omega, fun h0 => ?_⟩, fun i => ?_, ?_⟩
    · obtain ⟨b, off, spot⟩ := a
      have hc0 := hcell 0 (by omega)
      have hspot : spot = none := by simpa [Addr.add] using World.cell?_spot hc0
      subst hspot
      refine ⟨b, off, rfl, ?_, fun i hi => ?_⟩
      · have := lt_of_cell hc0
        simpa [Addr.add] using this
      · have h1 := hcell i (by omega)
        rw [add_cell] at h1
        have h2 := hb i hi
        rw [h1]
        dsimp only
        rw [if_pos hi, Int.toNat_of_nonneg h2.1]
    · dsimp only
      split
      · rename_i hi
        have := hb i hi
        omega
      · decide
    · have h1 := congrArg Prod.fst hx
      dsimp only at h1
      rw [h1]
      refine Nat.le_trans ?_ (Nat.le_trans (Nat.le_succ _) (bulks.slice_le _ _))
      simp [lits]
      omega
theorem strs_bulk : ∀ ss : List ByteArray, Rows.uptoBulkAll (strs (H := H) ss) = (tailT (ss.map (·.data.toList))).length
  | [] => rfl
  | s :: ss => by
    have ih := strs_bulk ss
    simp only [strs, Lib.joinTail, List.map_cons, Rows.uptoBulkAll, List.flatten_cons, List.length_append] at ih ⊢
    rw [ih, bulks.string_eq]
    simp
    omega
theorem names_of {fuel : Nat} {v : Value} {y : DataW H × List MemPlace} (h : DataW.trod enc Tryd.prog w 0 (fun _ => true) true fuel 24 [v] = some y) :
    ∃ (B : Option Addr) (e : Nat) (l : List Nm), v = .slice B l.length e ∧ (0 < l.length → ∃ g off, B = some ⟨g, off, none⟩ ∧ g < w.heap.size ∧ ∀ i, i < l.length → w.cell? ⟨g, off + i, none⟩ = some (encStr (l.getD i []))) ∧ l.length ≤ e ∧ e ≤ maxLen ∧ (B = none → e = 0) ∧ (tailT l).length ≤ Rows.uptoBulk y.1 := by
  rcases open_strings Tryd.underlying24 Tryd.underlying9 (by kernel_rfl) h with ⟨hcs, _⟩ | ⟨a, len, cap, ss, hcs, _, hl, hm, hz, hx, hcell, hw⟩
  · simp at hcs
    subst hcs
    exact ⟨none, 0, [], rfl, fun h => absurd h (Nat.lt_irrefl 0), Nat.le_refl _, Nat.zero_le _, fun _ => rfl, Nat.zero_le _⟩
  · simp at hcs
    subst hcs
    simp at hz
    have hll : ((ss.take len).map (·.data.toList)).length = len := by
      rw [List.length_map, List.length_take]
      omega
    refine ⟨some a, cap, (ss.take len).map (·.data.toList), by rw [hll], fun h0 => ?_, by rw [hll]; exact hl, hm, (fun h => by cases h), ?_⟩
    · rw [hll] at h0 ⊢
      obtain ⟨b, off, spot⟩ := a
      have hc0 := hcell 0 (by omega)
      have hspot : spot = none := by simpa [Addr.add] using World.cell?_spot hc0
      subst hspot
      refine ⟨b, off, rfl, ?_, fun i hi => ?_⟩
      · have := lt_of_cell hc0
        simpa [Addr.add] using this
      · have h1 := hcell i (by omega)
        rw [add_cell] at h1
        rw [h1]
        have hi2 : i < ss.length := by omega
        rw [List.getD, List.getD, List.getElem?_map, List.getElem?_take_of_lt hi, List.getElem?_eq_getElem hi2]
        simp [encStr]
    · have h1 := congrArg Prod.fst hx
      dsimp only at h1
      rw [h1, ← strs_bulk (H := H)]
      exact Nat.le_trans (Nat.le_succ _) (bulks.slice_elems _ _)
end
theorem array5 {α : Type} {cs : Array α} (h : cs.size = 5) : ∃ c0 c1 c2 c3 c4, cs = #[c0, c1, c2, c3, c4] := by
  obtain ⟨l⟩ := cs
  match l, h with
  | [a, b, c, d, e], _ => exact ⟨a, b, c, d, e, rfl⟩
theorem list5 {α : Type} {l : List α} (h : l.length = 5) : ∃ a0 a1 a2 a3 a4, l = [a0, a1, a2, a3, a4] := by
  match l, h with
  | [a0, a1, a2, a3, a4], _ => exact ⟨_, _, _, _, _, rfl⟩
theorem cellsTold : Tryd.prog.cellsOf 26 = 5 := by kernel_rfl
theorem mem_tail : ∀ (l : List Nm) (s : Nm), s ∈ l → s.length ≤ (tailT l).length
  | x :: l, s, h => by
    have e : tailT (x :: l) = (32 :: x) ++ tailT l := by simp [Lib.joinTail]
    rw [e, List.length_append, List.length_cons]
    rcases List.mem_cons.1 h with rfl | h
    · omega
    · have := mem_tail l s h
      omega
theorem len_tail : ∀ l : List Nm, l.length ≤ (tailT l).length
  | [] => Nat.zero_le _
  | x :: l => by
    have e : tailT (x :: l) = (32 :: x) ++ tailT l := by simp [Lib.joinTail]
    have := len_tail l
    rw [e, List.length_append, List.length_cons, List.length_cons]
    omega
set_option maxRecDepth 100000 in
theorem open_told {H : Type} {enc : TypeId × Value → H} {W : World} {base : Nat} {v : Value} {d : DataW H} {p : List MemPlace} (ok : Value.okWide Tryd.prog W .any base 26 v)
    (h : DataW.Trod enc Tryd.prog W 0 (fun _ => true) true 26 v d p) (hk : Rows.uptoBulk d ≤ 1048576) (htab : Lib.TabIs Tryd.prog W "internal/strconv.uint64pow10" .u64 Lib.pow10Tab) :
    ∃ (code size : Int) (dn : Bool) (A : Option Addr) (n c : Nat) (f : Nat → Nat) (B : Option Addr) (e : Nat) (l : List Nm), v = .agg #[.int .i64 code, .bool dn, .int .i64 size, .slice A n c, .slice B l.length e] ∧ ToldOk W code size A n f B e l := by
  obtain ⟨cs, rfl, hsz⟩ := okWide_struct Tryd.underlying26 ok
  obtain ⟨a0, a1, a2, a3, a4, rfl⟩ := array5 (hsz.trans cellsTold)
  obtain ⟨fuel, hf⟩ := h
  obtain ⟨ys, n', hn', hy, hlen, hyl, hfd⟩ := DataW.trod_struct Tryd.underlying26 hf
  obtain ⟨y0, y1, y2, y3, y4, rfl⟩ := list5 hyl
  have cb : Tryd.prog.cellsOf 4 = 1 := by kernel_rfl
  have ci : Tryd.prog.cellsOf 3 = 1 := by kernel_rfl
  have ce : Tryd.prog.cellsOf 22 = 1 := by kernel_rfl
  have cby : Tryd.prog.cellsOf 23 = 1 := by kernel_rfl
  have cst : Tryd.prog.cellsOf 24 = 1 := by kernel_rfl
  have h0 := hfd 0 _ rfl
  have h1 := hfd 1 _ rfl
  have h2 := hfd 2 _ rfl
  have h3 := hfd 3 _ rfl
  have h4 := hfd 4 _ rfl
  simp [Value.cells, cb, ci, ce, cby, cst] at h0 h1 h2 h3 h4
  obtain ⟨code, rfl, w0⟩ := int_of Tryd.underlying22 h0
  obtain ⟨dn, e1, _⟩ := DataW.trod_bool Tryd.underlying4 h1
  simp at e1
  subst e1
  obtain ⟨size, rfl, w2⟩ := int_of Tryd.underlying3 h2
  obtain ⟨A, n, c, f, rfl, hd, hlt, hn⟩ := bytes_of h3
  obtain ⟨B, e, l, rfl, hB, hle, hem, hnil, hsum⟩ := names_of h4
  have hd0 : d = .agg [y0.1, y1.1, y2.1, y3.1, y4.1] := congrArg Prod.fst hy
  rw [hd0] at hk
  simp only [Rows.uptoBulk, Rows.uptoBulkAll] at hk
  have ht : (tailT l).length ≤ 1048576 := by omega
  exact ⟨code, size, dn, A, n, c, f, B, e, l, rfl, ⟨(bounds_i64 w0).1, (bounds_i64 w0).2, (bounds_i64 w2).1, (bounds_i64 w2).2, hd, hlt, by omega, ⟨Nat.le_trans (len_tail l) ht, hB, fun s hs => Nat.le_trans (mem_tail l s hs) ht⟩, hle, by unfold maxLen at hem; omega, hnil, by omega, htab⟩⟩
end Go.Proofs.YtaommipcdcncnaaDoor.desk
