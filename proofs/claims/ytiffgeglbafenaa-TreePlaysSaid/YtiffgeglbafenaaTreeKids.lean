/-
  Plain steps of write at a node with kids: what is kept while they are written, one by one.
-/
import Derived.Test.YtiffgeglbafenaaTreeLeaf
namespace Go.Proofs.Ytiffgeglbafenaa.tree
open Go.ChangeShapes Go.WideShapes Go.ChangeAt Go.RowKit Go.Proofs.Ytiffgeglbafenaa.kit Go.Deep
set_option linter.unusedVariables false
set_option maxRecDepth 100000
/-- a node that is ready to be written: its cells, its kids -/
structure Rdy (w wx : World) (P : Nat → Prop) (c fb B top L a top' : Nat) (vv : Value) (F : Nat → Value) (f : Nat → Nat) : Prop where
  nd : Nd wx a F c (L + 1)
  k0 : Wt wx P c c B L top' (F 3) f
  ks : ∀ j, 1 ≤ j → j < 4 → Tr wx P c L (F (3 + j)) (fun i => f (j * roomN L + i))
  t1 : B ≤ top'
  t2 : top' ≤ top
  an : (B ≤ a ∧ a < top ∧ top' ≤ a) ∨ w.heap.size ≤ a
  fbk : Fb wx fb vv
  alt : Alt (KW fb B top) w wx
theorem Rdy.of_tr {w w1 wx : World} {P : Nat → Prop} {c fb B top L : Nat} {vv : Value} {F G : Nat → Value} {f : Nat → Nat} (hn : New w w1) (hB : B ≤ top)
    (hG : ∀ j, j < 4 → Tr w P c L (G (3 + j)) (fun i => f (j * roomN L + i))) (hN : Nd wx w1.heap.size F c (L + 1)) (hFG : ∀ i, 3 ≤ i → i < 71 → F i = G i) (hF : Fb w fb vv) (hFx : Fb wx fb vv) (hA : Alt (fun k => k = fb) w1 wx) :
    Rdy w wx P c fb B top L w1.heap.size B vv F f := by
  have hA' : Alt (fun k => k = fb) w wx := (Alt.of_new hn).trans hA
  have hk : ∀ j, j < 4 → Tr wx P c L (F (3 + j)) (fun i => f (j * roomN L + i)) := fun j hj => by
    rw [hFG (3 + j) (by omega) (by omega)]
    exact (hG j hj).alt hA' fun g cs _ hb => hF.ne hb
  refine ⟨hN, .of ((hk 0 (by omega)).congr fun i _ => by simp), fun j _ hj => hk j hj, Nat.le_refl _, hB, .inr hn.size, hFx, hA'.weak fun k hk => .inl hk⟩
theorem Rdy.of_chain {w wx : World} {P : Nat → Prop} {c fb B top L a : Nat} {vv : Value} {F : Nat → Value} {f : Nat → Nat} (hn : New w wx) (h2 : B ≤ a) (h3 : a < top) (h4 : Nd w a F c (L + 1)) (h5 : Wt w P c c B L a (F 3) f)
    (h6 : ∀ j, 1 ≤ j → j < 4 → F (3 + j) = .pointer none) (h7 : ∀ i, roomN L ≤ i → i < roomN (L + 1) → f i = 0) (ht : top ≤ w.heap.size) (hF : Fb w fb vv) : Rdy w wx P c fb B top L a a vv F f := by
  refine ⟨h4.new hn, h5.keep (fun g cs _ hb => hn.block g hb.lt) (Nat.le_refl _) (fun g _ hg => hn.block g (by omega)), fun j h1 hj => ?_, h2, Nat.le_of_lt h3, .inl ⟨h2, h3, Nat.le_refl _⟩, hF.new hn, Alt.of_new hn⟩
  rw [h6 j h1 hj]
  refine Tr.nil _ _ _ fun i hi => h7 _ ?_ ?_
  · have : 1 * roomN L ≤ j * roomN L := Nat.mul_le_mul_right _ h1
    omega
  · rw [roomN_succ]
    have : j * roomN L ≤ 3 * roomN L := Nat.mul_le_mul_right _ (by omega)
    omega
/-- a node's cells, its first kids anew -/
def kidsF (F : Nat → Value) (kv : Nat → Value) (j i : Nat) : Value := if 3 ≤ i ∧ i < 3 + j then kv (i - 3) else F i
theorem kidsF_zero (F kv : Nat → Value) : kidsF F kv 0 = F := by
  funext i
  unfold kidsF
  rw [if_neg (by omega)]
theorem kidsF_succ (F kv : Nat → Value) (j : Nat) (v : Value) : kidsF F (fun i => if i = j then v else kv i) (j + 1) = fun i => if i = 3 + j then v else kidsF F kv j i := by
  funext i
  unfold kidsF
  by_cases h1 : i = 3 + j
  · subst h1
    rw [if_pos (by omega), if_pos rfl]
    show (if _ then _ else _) = _
    rw [if_pos (by omega)]
  · rw [if_neg h1]
    by_cases h2 : 3 ≤ i ∧ i < 3 + j
    · rw [if_pos h2, if_pos (by omega)]
      show (if _ then _ else _) = _
      rw [if_neg (by omega)]
    · rw [if_neg h2, if_neg (by omega)]
abbrev QA (P : Nat → Prop) (B top' : Nat) (w : World) (a : Nat) : Nat → Prop := fun g => QW P B top' w g ∧ g ≠ a
/-- while the kids are written -/
structure Lp (w : World) (P : Nat → Prop) (c fb B top L a top' : Nat) (H : Nat → Nat → Nat) (vv : Value) (F : Nat → Value) (f : Nat → Nat) (j : Nat) (kv : Nat → Value) (wr : World) : Prop where
  nd : Nd wr a (kidsF F kv j) c (L + 1)
  done : ∀ i, i < j → Tr wr (QA P B top' w a) (c + 1) L (kv i) (H i)
  pend : ∀ i, j ≤ i → i < 4 → ∃ tj, B ≤ tj ∧ tj ≤ top' ∧ (tj = B ∨ i = 0) ∧ Wt wr P c c B L tj (F (3 + i)) (fun x => f (i * roomN L + x))
  t1 : B ≤ top'
  t2 : top' ≤ top
  an : (B ≤ a ∧ a < top ∧ top' ≤ a) ∨ w.heap.size ≤ a
  fbk : Fb wr fb vv
  alt : Alt (KW fb B top) w wr
theorem Rdy.lp {w wx : World} {P : Nat → Prop} {c fb B top L a top' : Nat} {H : Nat → Nat → Nat} {vv : Value} {F : Nat → Value} {f : Nat → Nat} (h : Rdy w wx P c fb B top L a top' vv F f) (kv : Nat → Value) : Lp w P c fb B top L a top' H vv F f 0 kv wx := by
  refine ⟨by rw [kidsF_zero]; exact h.nd, fun i hi => absurd hi (Nat.not_lt_zero i), fun i _ hi => ?_, h.t1, h.t2, h.an, h.fbk, h.alt⟩
  by_cases h0 : i = 0
  · subst h0
    refine ⟨top', h.t1, Nat.le_refl _, .inr rfl, ?_⟩
    have : (fun x => f (0 * roomN L + x)) = f := by funext x; simp
    rw [this]
    exact h.k0
  · exact ⟨B, Nat.le_refl _, h.t1, .inl rfl, .of (h.ks i (by omega) hi)⟩
theorem Tr.isP {w : World} {P : Nat → Prop} {c L : Nat} {v : Value} {f : Nat → Nat} (h : Tr w P c L v f) : ∃ p, v = .pointer p := by
  rcases h.form with ⟨rfl, _⟩ | ⟨g, F, b, rfl, _⟩ <;> exact ⟨_, rfl⟩
theorem Tr.one {w : World} {P : Nat → Prop} {c L : Nat} {v : Value} {f : Nat → Nat} (h : Tr w P c L v f) : v.oneCell' = true := by
  rcases h.form with ⟨rfl, _⟩ | ⟨g, F, b, rfl, _⟩ <;> rfl
theorem Lp.step {w : World} {P : Nat → Prop} {c fb B top L a top' : Nat} {H : Nat → Nat → Nat} {vv : Value} {F : Nat → Value} {f : Nat → Nat} {j : Nat} {kv : Nat → Value} {wr w' w3 : World} (h : Lp w P c fb B top L a top' H vv F f j kv wr) (hj : j < 4)
    (hP : ∀ g, P g → g < B) (hB : B ≤ top) (ht : top ≤ w.heap.size) (hn : New wr w') {tj : Nat} (k1 : B ≤ tj) (k2 : tj ≤ top') (k3 : tj = B ∨ j = 0) {v' : Value}
    (hT : Tr w3 (QW P B tj w') (c + 1) L v' (H j)) (hF3 : Fb w3 fb vv) (hA : Alt (KW fb B tj) w' w3) :
    (∃ u, w3.cell? ⟨a, 3 + j, none⟩ = some u) ∧ w3.frozen? ⟨a, 3 + j, none⟩ = false ∧ Lp w P c fb B top L a top' H vv F f (j + 1) (fun i => if i = j then v' else kv i) (w3.setCell ⟨a, 3 + j, none⟩ v') := by
  obtain ⟨cs, hcs⟩ := h.nd.blk
  have hafb : a ≠ fb := h.fbk.ne hcs
  have hBa : B ≤ a := by rcases h.an with h1 | h1 <;> omega
  have ht2 := h.t2
  have hat : ¬ (B ≤ a ∧ a < top') := by rcases h.an with h1 | h1 <;> omega
  have haK : ¬ KW fb B tj a := by rintro (h1 | h1); exact hafb h1; exact hat ⟨h1.1, Nat.lt_of_lt_of_le h1.2 k2⟩
  have halt : a < wr.heap.size := h.nd.lt
  have hw1 := h.alt.size
  have hw2 := hn.size
  have hN3 : Nd w3 a (kidsF F kv j) c (L + 1) := (h.nd.new hn).alt hA haK
  have hone := hT.one
  have hN4 := hN3.set (k := 3 + j) (by omega) hone
  rw [← kidsF_succ F kv j v'] at hN4
  -- what the whole step leaves of a node's block
  have hkeep : ∀ g cs, Blk wr g 94 cs → g ≠ a → ¬ (B ≤ g ∧ g < tj) → (w3.setCell ⟨a, 3 + j, none⟩ v').heap[g]? = wr.heap[g]? := fun g cs hb hga hgt => by
    rw [Below.heap_setCell w3 ⟨a, 3 + j, none⟩ v' g hga]
    rw [hA.same g (by have := hb.lt; omega) (by rintro (h1 | h1); exact h.fbk.ne hb h1; exact hgt h1)]
    exact hn.block g hb.lt
  refine ⟨⟨_, hN3.cell (by omega)⟩, hN3.row.frozen _, ⟨hN4, fun i hi => ?_, fun i hi hi4 => ?_, h.t1, h.t2, h.an, ?_, ?_⟩⟩
  · by_cases hij : i = j
    · subst hij
      rw [if_pos rfl]
      refine hT.keep (Nat.le_refl _) (fun g hg => ?_) (fun g cs hg hb => ?_) (fun _ _ => rfl)
      · rcases hg with h1 | h1 | h1
        · have := hP g h1
          exact ⟨.inl h1, by omega⟩
        · exact ⟨.inr (.inl ⟨h1.1, by omega⟩), by omega⟩
        · exact ⟨.inr (.inr (by omega)), by omega⟩
      · refine Below.heap_setCell w3 ⟨a, 3 + i, none⟩ v' g ?_
        show g ≠ a
        rcases hg with h1 | h1 | h1
        · have := hP g h1
          omega
        · omega
        · omega
    · rw [if_neg hij]
      have k4 : tj = B := by rcases k3 with h1 | h1; exact h1; omega
      exact (h.done i (by omega)).keep (Nat.le_refl _) (fun _ x => x) (fun g cs hg hb => hkeep g cs hb hg.2 (by omega)) (fun _ _ => rfl)
  · obtain ⟨ti, p1, p2, p3, p4⟩ := h.pend i (by omega) hi4
    have p5 : ti = B := by rcases p3 with h1 | h1; exact h1; omega
    subst p5
    exact ⟨ti, p1, p2, .inl rfl, p4.keep (fun g cs hg hb => hkeep g cs hb (by have := hP g hg; omega) (by have := hP g hg; omega)) (Nat.le_refl _) (fun g g1 g2 => by omega)⟩
  · obtain ⟨m, hm⟩ := hF3
    exact ⟨m, hm.far (Ne.symm hafb) _⟩
  · refine Alt.set ((h.alt.next hn).trans (hA.weak fun k hk => ?_)) ?_ _
    · rcases hk with h1 | h1
      · exact .inl h1
      · exact .inr ⟨h1.1, by have := h.t2; omega⟩
    · rcases h.an with h1 | h1
      · exact .inl (.inr ⟨h1.1, h1.2.1⟩)
      · exact .inr h1
theorem Lp.drew {w : World} {P : Nat → Prop} {c fb B top L a top' : Nat} {H : Nat → Nat → Nat} {vv : Value} {F : Nat → Value} {f : Nat → Nat} {j : Nat} {kv : Nat → Value} {wr : World} (h : Lp w P c fb B top L a top' H vv F f j kv wr) : Lp w P c fb B top L a top' H vv F f j kv wr.drew := by
  have hn : New wr wr.drew := (New.refl wr).drew
  refine ⟨h.nd.new hn, fun i hi => (h.done i hi).new hn, fun i h1 h2 => ?_, h.t1, h.t2, h.an, h.fbk.new hn, h.alt.drew⟩
  obtain ⟨tj, p1, p2, p3, p4⟩ := h.pend i h1 h2
  exact ⟨tj, p1, p2, p3, p4.keep (fun g cs _ hb => hn.block g hb.lt) (Nat.le_refl _) (fun g _ _ => rfl)⟩
theorem Lp.end {w : World} {P : Nat → Prop} {c fb B top L a top' : Nat} {H : Nat → Nat → Nat} {vv : Value} {F : Nat → Value} {f : Nat → Nat} {kv : Nat → Value} {wr : World} (h : Lp w P c fb B top L a top' H vv F f 4 kv wr) {f' : Nat → Nat} (hf : ∀ j x, j < 4 → x < roomN L → H j x = f' (j * roomN L + x)) :
    Tr wr (QW P B top w) (c + 1) (L + 1) (ptr a) f' ∧ Fb wr fb vv ∧ Alt (KW fb B top) w wr := by
  refine ⟨.inr ⟨a, _, c, rfl, ?_, h.nd, Nat.lt_succ_self c, fun j hj => ?_⟩, h.fbk, h.alt⟩
  · rcases h.an with h1 | h1
    · exact .inr (.inl ⟨h1.1, h1.2.1⟩)
    · exact .inr (.inr h1)
  · have e : kidsF F kv 4 (3 + j) = kv j := by
      unfold kidsF
      rw [if_pos (by omega), show 3 + j - 3 = j by omega]
    rw [e]
    refine (h.done j hj).keep (Nat.le_refl _) (fun g hg => ?_) (fun _ _ _ _ => rfl) (fun x hx => hf j x hj hx)
    · rcases hg.1 with h1 | h1 | h1
      · exact .inl h1
      · exact .inr (.inl ⟨h1.1, by have := h.t2; omega⟩)
      · exact .inr (.inr h1)
theorem Tr.bound {w : World} {P : Nat → Prop} {c : Nat} : ∀ {L : Nat} {v : Value} {f : Nat → Nat}, Tr w P c L v f → Tr w (fun g => P g ∧ g < w.heap.size) c L v f
  | 0, v, f, h => by
    rcases h with h | ⟨g, F, b, h1, h2, h3, h4⟩
    · exact .inl h
    · exact .inr ⟨g, F, b, h1, ⟨h2, h3.lt⟩, h3, h4⟩
  | L + 1, v, f, h => by
    rcases h with h | ⟨g, F, b, h1, h2, h3, h4, h5⟩
    · exact .inl h
    · exact .inr ⟨g, F, b, h1, ⟨h2, h3.lt⟩, h3, h4, fun j hj => (h5 j hj).bound⟩
end Go.Proofs.Ytiffgeglbafenaa.tree
