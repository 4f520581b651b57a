/-
  Contract of fresh: a node of the version that is being made.
-/
import Derived.Test.YtiffgeglbafenaaTreeMem
import Derived.Deep.DeepCutAuto
import Derived.Deep.CutBlock
namespace Go.Proofs.Ytiffgeglbafenaa.tree
open Go.ChangeShapes Go.WideShapes Go.ChangeAt Go.RowKit Go.Proofs.Ytiffgeglbafenaa.kit Go.Deep
set_option linter.unusedVariables false
set_option maxRecDepth 100000
/-- a node's cells, none written yet -/
def bareF (L : Int) (i : Nat) : Value := if i = 2 then .int .i64 L else if i < 2 then .int .i64 0 else if i < 7 then .pointer none else .int .u8 0
def bareA (L : Int) : Array Value := (Array.range 71).map (bareF L)
theorem built_node (L : Int) : Try.prog.built 94 [(2, .int .i64 L)] = some (bareA L) := by kernel_rfl
theorem bareA_at (L : Int) (i : Nat) (h : i < 71) : (bareA L)[i]? = some (bareF L i) := by simp [bareA, h]
theorem bareA_size (L : Int) : (bareA L).size = 71 := by simp [bareA]
theorem infoNd : (Try.prog.info? 94).map (·.size) = some 71 := by kernel_rfl
/-- what fresh leaves: a new node that bears the cells of G but for its number and birth -/
def FreshP (fb c : Nat) (vv : Value) (L : Nat) (G : Nat → Value) (w : World) (e : Ending) (w' : World) : Prop :=
  e = .returned (ptr w.heap.size) ∧ (∃ F, Nd w' w.heap.size F c L ∧ ∀ i, 3 ≤ i → i < 71 → F i = G i) ∧ Fb w' fb vv ∧ Alt (fun k => k = fb) w w'
theorem fresh_end {fb c L : Nat} {vv : Value} {G : Nat → Value} {w w1 : World} {x m : Int} (hB : Blk w1 fb 65 #[vv, .int .i64 m]) (hR : w1.rowIs w.heap.size 94 71 G) (hone : ∀ i, i < 71 → (G i).oneCell' = true) (hlev : G 2 = .int .i64 L) (hA : Alt (fun k => k = fb) w w1) :
    FreshP fb c vv L G w (.returned (ptr w.heap.size)) ((w1.setCell ⟨w.heap.size, 0, none⟩ (.int .i64 x)).setCell ⟨w.heap.size, 1, none⟩ (.int .i64 c)).drew := by
  have hne : fb ≠ w.heap.size := fun e => by
    obtain ⟨cs, hcs, _⟩ := rowIs_blk hR
    exact blk_ne' hB hcs (by decide) e
  refine ⟨rfl, ⟨_, ⟨(hR.set 0 _).set 1 _, fun i hi => ?_, rfl, ?_⟩, fun i h3 hi => ?_⟩, ⟨m, (hB.far hne _).far hne _⟩, ((hA.set (.inr (Nat.le_refl _)) _).set (.inr (Nat.le_refl _)) _).drew⟩
  · show (if i = 1 then Value.int .i64 c else if i = 0 then Value.int .i64 x else G i).oneCell' = true
    split
    · rfl
    split
    · rfl
    · exact hone i hi
  · exact hlev
  · show (if i = 1 then _ else if i = 0 then _ else G i) = G i
    rw [if_neg (by omega), if_neg (by omega)]
theorem Fresh_nil (fb L c vc : Nat) (vA : Option Addr) (w : World) (hF : Fb w fb (.slice vA c vc)) :
    Calls Try.prog 34 #[ptr fb, .pointer none, .int .i64 (L : Int)] w (FreshP fb c (.slice vA c vc) L (bareF L) w) := by
  obtain ⟨m, hm⟩ := hF
  obtain ⟨T, hT⟩ : ∃ T, Hid (T = bareA (L : Int)) := ⟨_, rfl⟩
  have hb : Hid (Try.prog.built 94 [(2, .int .i64 (L : Int))] = some T) := by rw [hT.out]; exact built_node L
  have hrow : Hid ((w.alloc (.cells T 94)).rowIs w.heap.size 94 71 (bareF L)) := by
    have h := World.rowIs_alloc w T 94 (bareF L) (fun i hi => by rw [hT.out] at hi ⊢; rw [bareA_size] at hi; exact bareA_at _ _ hi)
    rw [hT.out, bareA_size] at h
    rw [hT.out]
    exact h
  have hmH := Lib.hid hm
  clear hm
  go_enter Try.func34, Try.ntmps34
  go_upto_region 2 with (refine wpList_build_known rfl 94 _ rfl T hb.out ?_)
  obtain ⟨W1, hW1⟩ : ∃ W1, W1 = w.alloc (.cells T 94) := ⟨_, rfl⟩
  rw [← hW1]
  have hR1 : Hid (W1.rowIs w.heap.size 94 71 (bareF L)) := by rw [hW1]; exact hrow.out
  have hB1 : Blk W1 fb 65 #[.slice vA c vc, .int .i64 m] := by rw [hW1]; exact hmH.out.alloc _
  have hA1 : Hid (Alt (fun k => k = fb) w W1) := by rw [hW1]; exact Alt.alloc (Alt.refl w) _
  clear hW1 hrow hmH hb hT
  have m1 := hB1.cell 1
  have f1 := hB1.frozen 1
  simp at m1
  have hB1 := Lib.hid hB1
  go_upto_region 5 with fail
  generalize wrap64 (m + 1) = x
  obtain ⟨W2, hW2⟩ : ∃ W2, W2 = W1.setCell ⟨fb, 1, none⟩ (.int .i64 x) := ⟨_, rfl⟩
  rw [← hW2]
  have hneb : w.heap.size ≠ fb := fun e => by
    obtain ⟨cs, hcs, _⟩ := rowIs_blk hR1.out
    exact blk_ne' hcs hB1.out (by decide) e
  have hR2 : Hid (W2.rowIs w.heap.size 94 71 (bareF L)) := by rw [hW2]; exact hR1.out.setOther hneb _
  have hB2 : Blk W2 fb 65 #[.slice vA c vc, .int .i64 x] := by rw [hW2]; exact hB1.out.put 1 (.int .i64 x)
  have hA2 : Hid (Alt (fun k => k = fb) w W2) := by rw [hW2]; exact hA1.out.set (.inl rfl) _
  clear hW2 hR1 hB1 hA1 m1 f1
  have b0 := hB2.cell 0
  have b1 := hB2.cell 1
  simp at b0 b1
  have n0 := hR2.out.cell (i := 0) (by omega)
  have n1 := hR2.out.cell (i := 1) (by omega)
  have z0 := hR2.out.frozen 0
  have z1 := hR2.out.frozen 1
  have hB2 := Lib.hid hB2
  have hneb := Lib.hid hneb
  go_region
  have hone : Hid (∀ i, i < 71 → (bareF (L : Int) i).oneCell' = true) := fun i hi => by
    unfold bareF
    split
    · rfl
    split
    · rfl
    split <;> rfl
  go_wp2
  go_ret
  exact fresh_end hB2.out hR2.out hone.out rfl hA2.out
/-- a node like another one -/
theorem Fresh_like (fb L b c vc g : Nat) (vA : Option Addr) (G : Nat → Value) (l : Int) (w : World) (hF : Fb w fb (.slice vA c vc)) (hG : Nd w g G b L) :
    Calls Try.prog 34 #[ptr fb, ptr g, .int .i64 l] w (FreshP fb c (.slice vA c vc) L G w) := by
  obtain ⟨m, hm⟩ := hF
  obtain ⟨C, hC, hCn, hCa⟩ := rowIs_blk hG.row
  obtain ⟨T, hT⟩ : ∃ T, Hid (T = bareA l) := ⟨_, rfl⟩
  have hb : Hid (Try.prog.built 94 [(2, .int .i64 l)] = some T) := by rw [hT.out]; exact built_node l
  have hsz : Hid (T.size = C.size) := by rw [hT.out, bareA_size, hCn]; exact (rfl : _ = _)
  have hsz2 : Hid ((Try.prog.info? 94).map (·.size) = some C.size) := by rw [hCn]; exact infoNd
  have hone : Hid (C.all (·.oneCell') = true) := by
    show _ = _
    rw [Array.all_eq_true]
    intro i hi
    have h1 := hCa i (by omega)
    rw [Array.getElem?_eq_getElem hi] at h1
    rw [Option.some.inj h1]
    exact hG.one i (by omega)
  have hGH := Lib.hid hG
  have hmH := Lib.hid hm
  have hCH := Lib.hid hC
  have hCnH := Lib.hid hCn
  have hCaH := Lib.hid hCa
  have hlt := hG.lt
  clear hm hG hC hCn hCa
  go_enter Try.func34, Try.ntmps34
  go_upto_region 2 with (refine wpList_build_known rfl 94 _ rfl T hb.out ?_)
  obtain ⟨W1, hW1⟩ : ∃ W1, W1 = w.alloc (.cells T 94) := ⟨_, rfl⟩
  rw [← hW1]
  have hT1 : Hid (Blk W1 w.heap.size 94 T) := by rw [hW1]; exact Blk.fresh w _ _
  have hC1 : Hid (Blk W1 g 94 C) := by rw [hW1]; exact hCH.out.alloc _
  have hB1 : Hid (Blk W1 fb 65 #[.slice vA c vc, .int .i64 m]) := by rw [hW1]; exact hmH.out.alloc _
  have hA1 : Hid (Alt (fun k => k = fb) w W1) := by rw [hW1]; exact Alt.alloc (Alt.refl w) _
  clear hW1 hmH hb hT
  go_upto_region 4 with (first
    | (refine wpList_load_row rfl 94 _ rfl g rfl 94 C (0, 0) _ hC1.out Try.underlying94 rfl hsz2.out ?_)
    | (refine wpList_store_row rfl 94 _ _ rfl w.heap.size C rfl rfl 94 T hT1.out hsz2.out hsz.out hone.out ?_))
  obtain ⟨W3, hW3⟩ : ∃ W3, W3 = W1.setRow w.heap.size C := ⟨_, rfl⟩
  rw [← hW3]
  have hneb : w.heap.size ≠ fb := blk_ne' hT1.out hB1.out (by decide)
  have hR3 : Hid (W3.rowIs w.heap.size 94 71 G) := by rw [hW3]; exact ⟨C, Blk.row hT1.out C, hCnH.out, hCaH.out⟩
  have hB3 : Blk W3 fb 65 #[.slice vA c vc, .int .i64 m] := by rw [hW3]; exact Blk.row_far hB1.out (Ne.symm hneb) C
  have hA3 : Hid (Alt (fun k => k = fb) w W3) := by rw [hW3]; exact hA1.out.row (.inr (Nat.le_refl _)) C
  clear hW3 hT1 hC1 hB1 hA1
  have m1 := hB3.cell 1
  have f1 := hB3.frozen 1
  simp at m1
  have hB3 := Lib.hid hB3
  have hneb := Lib.hid hneb
  go_upto_region 5 with fail
  generalize wrap64 (m + 1) = x
  obtain ⟨W2, hW2⟩ : ∃ W2, W2 = W3.setCell ⟨fb, 1, none⟩ (.int .i64 x) := ⟨_, rfl⟩
  rw [← hW2]
  have hR2 : Hid (W2.rowIs w.heap.size 94 71 G) := by rw [hW2]; exact hR3.out.setOther hneb.out _
  have hB2 : Blk W2 fb 65 #[.slice vA c vc, .int .i64 x] := by rw [hW2]; exact hB3.out.put 1 (.int .i64 x)
  have hA2 : Hid (Alt (fun k => k = fb) w W2) := by rw [hW2]; exact hA3.out.set (.inl rfl) _
  clear hW2 hR3 hB3 hA3 m1 f1
  have b0 := hB2.cell 0
  have b1 := hB2.cell 1
  simp at b0 b1
  have n0 := hR2.out.cell (i := 0) (by omega)
  have n1 := hR2.out.cell (i := 1) (by omega)
  have z0 := hR2.out.frozen 0
  have z1 := hR2.out.frozen 1
  have hB2 := Lib.hid hB2
  go_region
  go_wp2
  go_ret
  exact fresh_end hB2.out hR2.out hGH.out.one hGH.out.lev hA2.out
end Go.Proofs.Ytiffgeglbafenaa.tree
