/-
  Trees in memory: nodes, what a root stands for; the forest's struct.
-/
import Derived.Test.YtiffgeglbafenaaProg
import Derived.Test.YtiffgeglbafenaaTreePlain
import Derived.Test.YtiffgeglbafenaaAlt
import Derived.Test.YtiffgeglbafenaaRowK
import Derived.Test.YtiffgeglbafenaaQuietTail
import Derived.Handy
import Derived.BigRegion
import Derived.Deep.OwnRows
import Derived.Deep.MidRow
import Derived.Deep.AppendLies
import Derived.Deep.Onto
import Derived.OwnWalk
import Derived.Maps.AppendAt
import Derived.Great.Walk
import Derived.Lib.SliceRun
import Derived.Deep.RegionHeld3
namespace Go.Proofs.Ytiffgeglbafenaa.tree
open Go.ChangeShapes Go.WideShapes Go.ChangeAt Go.RowKit Go.Proofs.Ytiffgeglbafenaa.kit Go.Deep
set_option linter.unusedVariables false
/-- a pointer to a block, none -/
abbrev ptr (g : Nat) : Value := .pointer (some ⟨g, 0, none⟩)
/-- a node in block g: its cells -/
structure Nd (w : World) (g : Nat) (F : Nat → Value) (b L : Nat) : Prop where
  row : w.rowIs g 94 71 F
  one : ∀ i, i < 71 → (F i).oneCell' = true
  bir : F 1 = .int .i64 b
  lev : F 2 = .int .i64 L
section
variable {w w' : World} {g : Nat} {F : Nat → Value} {b L : Nat}
theorem Nd.cell (h : Nd w g F b L) {i : Nat} (hi : i < 71) : w.cell? ⟨g, i, none⟩ = some (F i) := h.row.cell hi
theorem Nd.lt (h : Nd w g F b L) : g < w.heap.size := h.row.lt
theorem Nd.block (h : Nd w g F b L) (he : w'.heap[g]? = w.heap[g]?) : Nd w' g F b L := ⟨h.row.of_block he, h.one, h.bir, h.lev⟩
theorem Nd.blk (h : Nd w g F b L) : ∃ cs, Blk w g 94 cs := by
  obtain ⟨cs, h1, _⟩ := h.row
  exact ⟨cs, h1⟩
theorem Nd.new (h : Nd w g F b L) (hn : New w w') : Nd w' g F b L := h.block (hn.block g h.lt)
theorem Nd.alt {K : Nat → Prop} (h : Nd w g F b L) (hn : Alt K w w') (hK : ¬ K g) : Nd w' g F b L := h.block (hn.same g h.lt hK)
/-- a cell behind the head is written -/
theorem Nd.set (h : Nd w g F b L) {k : Nat} (hk : 3 ≤ k) {v : Value} (hv : v.oneCell' = true) : Nd (w.setCell ⟨g, k, none⟩ v) g (fun j => if j = k then v else F j) b L :=
  ⟨h.row.set k v, fun i hi => by
    show (if i = k then v else F i).oneCell' = true
    split
    · exact hv
    · exact h.one i hi, by show (if 1 = k then v else F 1) = _; rw [if_neg (by omega)]; exact h.bir, by show (if 2 = k then v else F 2) = _; rw [if_neg (by omega)]; exact h.lev⟩
end
/-- what a root stands for: nodes of the blocks P, born ahead of c -/
def Tr (w : World) (P : Nat → Prop) (c : Nat) : Nat → Value → (Nat → Nat) → Prop
  | 0, v, f => (v = .pointer none ∧ ∀ i, i < roomN 0 → f i = 0) ∨ ∃ g F b, v = ptr g ∧ P g ∧ Nd w g F b 0 ∧ b < c ∧ ∀ i, i < 64 → F (7 + i) = .int .u8 (f i : Nat)
  | L + 1, v, f => (v = .pointer none ∧ ∀ i, i < roomN (L + 1) → f i = 0) ∨ ∃ g F b, v = ptr g ∧ P g ∧ Nd w g F b (L + 1) ∧ b < c ∧ ∀ j, j < 4 → Tr w P c L (F (3 + j)) (fun i => f (j * roomN L + i))
theorem Tr.nil (w : World) (P : Nat → Prop) (c : Nat) {L : Nat} {f : Nat → Nat} (h : ∀ i, i < roomN L → f i = 0) : Tr w P c L (.pointer none) f := by
  cases L with
  | zero => exact .inl ⟨rfl, h⟩
  | succ L => exact .inl ⟨rfl, h⟩
theorem Tr.form {w : World} {P : Nat → Prop} {c L : Nat} {v : Value} {f : Nat → Nat} (h : Tr w P c L v f) : (v = .pointer none ∧ ∀ i, i < roomN L → f i = 0) ∨ ∃ g F b, v = ptr g ∧ P g ∧ Nd w g F b L ∧ b < c := by
  cases L with
  | zero =>
    rcases h with h | ⟨g, F, b, h1, h2, h3, h4, _⟩
    · exact .inl h
    · exact .inr ⟨g, F, b, h1, h2, h3, h4⟩
  | succ L =>
    rcases h with h | ⟨g, F, b, h1, h2, h3, h4, _⟩
    · exact .inl h
    · exact .inr ⟨g, F, b, h1, h2, h3, h4⟩
/-- .. it keeps where its nodes do -/
theorem Tr.keep {w w' : World} {P Q : Nat → Prop} {c d : Nat} (hc : c ≤ d) (hP : ∀ g, P g → Q g) (hk : ∀ g cs, P g → Blk w g 94 cs → w'.heap[g]? = w.heap[g]?) : ∀ {L : Nat} {v : Value} {f f' : Nat → Nat}, Tr w P c L v f → (∀ i, i < roomN L → f i = f' i) → Tr w' Q d L v f'
  | 0, v, f, f', h, he => by
    rcases h with ⟨h1, h2⟩ | ⟨g, F, b, h1, h2, h3, h4, h5⟩
    · exact .inl ⟨h1, fun i hi => by rw [← he i hi]; exact h2 i hi⟩
    · obtain ⟨cs, hcs⟩ := h3.blk
      exact .inr ⟨g, F, b, h1, hP g h2, h3.block (hk g cs h2 hcs), by omega, fun i hi => by rw [← he i (by rw [roomN_zero]; exact hi)]; exact h5 i hi⟩
  | L + 1, v, f, f', h, he => by
    rcases h with ⟨h1, h2⟩ | ⟨g, F, b, h1, h2, h3, h4, h5⟩
    · exact .inl ⟨h1, fun i hi => by rw [← he i hi]; exact h2 i hi⟩
    · obtain ⟨cs, hcs⟩ := h3.blk
      refine .inr ⟨g, F, b, h1, hP g h2, h3.block (hk g cs h2 hcs), by omega, fun j hj => (h5 j hj).keep hc hP hk fun i hi => he _ ?_⟩
      rw [roomN_succ]
      have : j * roomN L ≤ 3 * roomN L := Nat.mul_le_mul_right _ (by omega)
      omega
theorem Tr.congr {w : World} {P : Nat → Prop} {c L : Nat} {v : Value} {f f' : Nat → Nat} (h : Tr w P c L v f) (he : ∀ i, i < roomN L → f i = f' i) : Tr w P c L v f' := h.keep (Nat.le_refl _) (fun _ x => x) (fun _ _ _ _ => rfl) he
theorem Tr.mono {w : World} {P Q : Nat → Prop} {c d L : Nat} {v : Value} {f : Nat → Nat} (h : Tr w P c L v f) (hc : c ≤ d) (hP : ∀ g, P g → Q g) : Tr w Q d L v f := h.keep hc hP (fun _ _ _ _ => rfl) (fun _ _ => rfl)
theorem Tr.alt {w w' : World} {K P : Nat → Prop} {c L : Nat} {v : Value} {f : Nat → Nat} (h : Tr w P c L v f) (ha : Alt K w w') (hK : ∀ g cs, P g → Blk w g 94 cs → ¬ K g) : Tr w' P c L v f :=
  h.keep (Nat.le_refl _) (fun _ x => x) (fun g cs hg hb => ha.same g hb.lt (hK g cs hg hb)) (fun _ _ => rfl)
theorem Tr.new {w w' : World} {P : Nat → Prop} {c L : Nat} {v : Value} {f : Nat → Nat} (h : Tr w P c L v f) (hn : New w w') : Tr w' P c L v f :=
  h.keep (Nat.le_refl _) (fun _ x => x) (fun g cs hg hb => hn.block g hb.lt) (fun _ _ => rfl)
theorem Tr.grown {w w' : World} {P : Nat → Prop} {c L : Nat} {v : Value} {f : Nat → Nat} {row : Option Nat} (h : Tr w P c L v f) (hg : w.grownBy w' row) (hr : ∀ g cs, Blk w g 94 cs → row ≠ some g) : Tr w' P c L v f :=
  h.keep (Nat.le_refl _) (fun _ x => x) (fun g cs _ hb => hg.block g hb.lt (Ne.symm (hr g cs hb))) (fun _ _ => rfl)
/-- a root that may stand on nodes of the version that is being made: these are blocks from B on, ahead of top; each has but its first kid -/
def Wt (w : World) (P : Nat → Prop) (c' c B : Nat) : Nat → Nat → Value → (Nat → Nat) → Prop
  | 0, top, v, f => Tr w P c' 0 v f
  | L + 1, top, v, f => Tr w P c' (L + 1) v f ∨ ∃ g F, v = ptr g ∧ B ≤ g ∧ g < top ∧ Nd w g F c (L + 1) ∧ Wt w P c' c B L g (F 3) f ∧ (∀ j, 1 ≤ j → j < 4 → F (3 + j) = .pointer none) ∧ ∀ i, roomN L ≤ i → i < roomN (L + 1) → f i = 0
theorem Wt.of {w : World} {P : Nat → Prop} {c' c B top L : Nat} {v : Value} {f : Nat → Nat} (h : Tr w P c' L v f) : Wt w P c' c B L top v f := by
  cases L with
  | zero => exact h
  | succ L => exact .inl h
theorem Wt.keep {w w' : World} {P : Nat → Prop} {c' c B : Nat} (hk : ∀ g cs, P g → Blk w g 94 cs → w'.heap[g]? = w.heap[g]?) : ∀ {L top top' : Nat} {v : Value} {f : Nat → Nat}, Wt w P c' c B L top v f → top ≤ top' → (∀ g, B ≤ g → g < top → w'.heap[g]? = w.heap[g]?) → Wt w' P c' c B L top' v f
  | 0, top, top', v, f, h, ht, hB => Tr.keep (Nat.le_refl _) (fun _ x => x) hk h (fun _ _ => rfl)
  | L + 1, top, top', v, f, h, ht, hB => by
    rcases h with h | ⟨g, F, h1, h2, h3, h4, h5, h6, h7⟩
    · exact .inl (Tr.keep (Nat.le_refl _) (fun _ x => x) hk h (fun _ _ => rfl))
    · exact .inr ⟨g, F, h1, h2, by omega, h4.block (hB g h2 h3), Wt.keep hk h5 (Nat.le_refl _) (fun k k1 k2 => hB k k1 (by omega)), h6, h7⟩
theorem Wt.tr {w : World} {P Q : Nat → Prop} {c' c B d : Nat} (hd : c' ≤ d) (hd2 : c < d) (hP : ∀ g, P g → Q g) : ∀ {L top : Nat} {v : Value} {f : Nat → Nat}, Wt w P c' c B L top v f → (∀ g, B ≤ g → g < top → Q g) → Tr w Q d L v f
  | 0, top, v, f, h, hB => Tr.mono h hd hP
  | L + 1, top, v, f, h, hB => by
    rcases h with h | ⟨g, F, h1, h2, h3, h4, h5, h6, h7⟩
    · exact Tr.mono h hd hP
    · have h0 := Wt.tr hd hd2 hP h5 (fun k k1 k2 => hB k k1 (by omega))
      refine .inr ⟨g, F, c, h1, hB g h2 h3, h4, hd2, fun j hj => ?_⟩
      match j, hj with
      | 0, _ => exact h0.congr fun i hi => by simp
      | j + 1, hj =>
        rw [h6 (j + 1) (by omega) hj]
        refine Tr.nil _ _ _ fun i hi => h7 _ ?_ ?_
        · have : 1 * roomN L ≤ (j + 1) * roomN L := Nat.mul_le_mul_right _ (by omega)
          omega
        · rw [roomN_succ]
          have : (j + 1) * roomN L ≤ 3 * roomN L := Nat.mul_le_mul_right _ (by omega)
          omega
/-- the forest's struct in block fb: its versions' slice -/
def Fb (w : World) (fb : Nat) (vv : Value) : Prop := ∃ m : Int, Blk w fb 65 #[vv, .int .i64 m]
theorem Fb.ne {w : World} {fb : Nat} {vv : Value} (h : Fb w fb vv) {g : Nat} {cs : Array Value} (hb : Blk w g 94 cs) : g ≠ fb := by
  obtain ⟨m, hm⟩ := h
  exact blk_ne' hb hm (by decide)
theorem Fb.new {w w' : World} {fb : Nat} {vv : Value} (h : Fb w fb vv) (hn : New w w') : Fb w' fb vv := by
  obtain ⟨m, hm⟩ := h
  exact ⟨m, hm.new hn⟩
theorem Fb.alt {K : Nat → Prop} {w w' : World} {fb : Nat} {vv : Value} (h : Fb w fb vv) (ha : Alt K w w') (hK : ¬ K fb) : Fb w' fb vv := by
  obtain ⟨m, hm⟩ := h
  exact ⟨m, ha.blk hm hK⟩
theorem Fb.lt {w : World} {fb : Nat} {vv : Value} (h : Fb w fb vv) : fb < w.heap.size := by
  obtain ⟨m, hm⟩ := h
  exact hm.lt
section
variable {P : Program}
theorem wpList_build_known {ops : Array Oper} {rest : List Oper} {o : Oper} {a : Act} {w : World} {Q : Exit → Act → World → Prop} (hg : o.guard = none) (t : TypeId) (parts : Array (Nat × Operand)) (ho : o.op = .build t parts) (T : Array Value)
    (hT : P.built t (parts.toList.map fun q => (q.1, a.eval q.2)) = some T)
    (h : wpList P ops Q rest (a.put o.dst (.agg T)) w) : wpList P ops Q (o :: rest) a w := by
  have e : (parts.map fun (i, x) => (i, a.eval x)).toList = parts.toList.map fun q => (q.1, a.eval q.2) := by simp
  refine wpList_build hg t parts ho (by rw [e, hT]; rfl) ?_
  rw [e, hT]
  exact h
end
end Go.Proofs.Ytiffgeglbafenaa.tree
