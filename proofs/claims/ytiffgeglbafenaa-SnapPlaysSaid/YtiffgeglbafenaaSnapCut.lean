/-
  A keeper in memory, a snapshot taken out.
-/
import Derived.Test.YtiffgeglbafenaaSnapDrop
namespace Go.Proofs.Ytiffgeglbafenaa.snap
open Go.ChangeShapes Go.WideShapes Go.ChangeAt Go.RowKit Go.Proofs.Ytiffgeglbafenaa.kit Go.Deep
set_option linter.unusedVariables false
set_option maxRecDepth 100000
theorem tripL_cut (a b c : Nat → Value) {m i : Nat} (hi : i < m) : (tripL a b c m).take (i * 3) ++ (tripL a b c m).drop ((i + 1) * 3) = tripL (cutAt a i) (cutAt b i) (cutAt c i) (m - 1) := by
  have hl := tripL_len a b c m
  refine tripL_ext (by rw [List.length_append, List.length_take, List.length_drop, hl]; omega) fun j hj => ?_
  by_cases e : j < i
  · obtain ⟨p0, p1, p2⟩ := tripL_at a b c m j (by omega)
    unfold cutAt
    rw [if_pos e, if_pos e, if_pos e]
    refine ⟨?_, ?_, ?_⟩ <;> rw [List.getElem?_append_left (by rw [List.length_take, hl]; omega), List.getElem?_take_of_lt (by omega)] <;> assumption
  · obtain ⟨p0, p1, p2⟩ := tripL_at a b c m (j + 1) (by omega)
    unfold cutAt
    rw [if_neg e, if_neg e, if_neg e]
    refine ⟨?_, ?_, ?_⟩ <;> rw [List.getElem?_append_right (by rw [List.length_take, hl]; omega), List.length_take, hl, List.getElem?_drop]
    · rw [show (i + 1) * 3 + (j * 3 - min (i * 3) (m * 3)) = (j + 1) * 3 by omega]; exact p0
    · rw [show (i + 1) * 3 + (j * 3 + 1 - min (i * 3) (m * 3)) = (j + 1) * 3 + 1 by omega]; exact p1
    · rw [show (i + 1) * 3 + (j * 3 + 2 - min (i * 3) (m * 3)) = (j + 1) * 3 + 2 by omega]; exact p2
theorem tripL_one {N M : Nat → Nat} {dv : Nat → Value} {m : Nat} (h : ∀ j, j < m → (dv j).oneCell' = true) : ∀ u, u ∈ tripL (fun i => .int .i64 (N i : Nat)) (fun i => .int .i64 (M i : Nat)) dv m → u.oneCell' = true := fun u hu => by
  unfold tripL at hu
  obtain ⟨j, hj, hu⟩ := List.mem_flatMap.1 hu
  have hj := List.mem_range.1 hj
  simp at hu
  rcases hu with rfl | rfl | rfl
  · rfl
  · rfl
  · exact h j hj
theorem Km.one {base kb : Nat} {s : KS} {bv sv : Value} {dv : Nat → Value} {w : World} (h : Km base kb s bv sv dv w) (j : Nat) (hj : j < s.m) : (dv j).oneCell' = true := by
  obtain ⟨A, c, e, _⟩ := own_open (h.dd.own j hj)
  rw [e]
  rfl
theorem Km.cut {base kb i gs cs : Nat} {s : KS} {bv : Value} {dv : Nat → Value} {L : Nat → List Nat} {w w7 : World} (h : Km base kb s bv (.slice (some ⟨gs, 0, none⟩) s.m cs) dv w) (him : i < s.m) (hg : w.grownBy w7 (some gs))
    (ho : w7.ownsRow base 72 3 (.slice (some ⟨gs, 0, none⟩) (s.m - 1) cs) (s.m - 1) ((tripL (fun i => .int .i64 (s.num i : Nat)) (fun i => .int .i64 (s.made i : Nat)) dv s.m).take (i * 3) ++ (tripL (fun i => .int .i64 (s.num i : Nat)) (fun i => .int .i64 (s.made i : Nat)) dv s.m).drop ((i + 1) * 3))) :
    Km base kb { s with m := s.m - 1, num := cutAt s.num i, made := cutAt s.made i, lst := L, dead := cutAt s.dead i } bv (.slice (some ⟨gs, 0, none⟩) (s.m - 1) cs) (cutAt dv i) (w7.setCell ⟨kb, 2, none⟩ (.slice (some ⟨gs, 0, none⟩) (s.m - 1) cs)) := by
  rw [tripL_cut _ _ _ him] at ho
  have hk7 := h.kbk.grown hg (own_ne_blk h.so h.kbk (by decide))
  have bo7 := own_keepO h.bo h.so (by decide) hg
  have e : tripL (cutAt (fun i => Value.int .i64 (s.num i : Nat)) i) (cutAt (fun i => Value.int .i64 (s.made i : Nat)) i) (cutAt dv i) (s.m - 1) = tripL (fun j => .int .i64 (cutAt s.num i j : Nat)) (fun j => .int .i64 (cutAt s.made i j : Nat)) (cutAt dv i) (s.m - 1) :=
    tripL_congr fun j hj => by
      unfold cutAt
      split <;> exact ⟨rfl, rfl, rfl⟩
  rw [e] at ho
  have hsg : ∀ j, j < s.m - 1 → cutAt dv i j = dv (sg i j) ∧ cutAt s.dead i j = s.dead (sg i j) ∧ sg i j < s.m := fun j hj => ⟨cutAt_sg _ _ _, cutAt_sg _ _ _, sg_lt him hj⟩
  refine ⟨hk7.put 2 _, own_keepS bo7 hk7 (by decide) _, own_keepS ho hk7 (by decide) _, ⟨fun j hj => ?_, fun j k g hj hk e1 e2 => ?_⟩, h.ge⟩
  · obtain ⟨q1, q2, q3⟩ := hsg j hj
    show OwnI _ _ (cutAt dv i j) (cutAt s.dead i j)
    rw [q1, q2]
    exact own_keepS (own_keepO (h.dd.own _ q3) h.so (by decide) hg) hk7 (by decide) _
  · obtain ⟨q1, _, q3⟩ := hsg j hj
    obtain ⟨r1, _, r3⟩ := hsg k hk
    rw [q1] at e1
    rw [r1] at e2
    exact sg_inj (h.dd.apart _ _ g q3 r3 e1 e2)
theorem Delete_m (base i m g c : Nat) (xs : List Value) (w : World) (hown : w.ownsRow base 72 3 (.slice (some ⟨g, 0, none⟩) m c) m xs) (h1 : ∀ u ∈ xs, u.oneCell' = true) (hi : i < m) (hm : m ≤ 9) :
    Calls Try.prog 30 #[.slice (some ⟨g, 0, none⟩) m c, .int .i64 (i : Nat), .int .i64 ((i : Int) + 1)] w fun e w' => e = .returned (.slice (some ⟨g, 0, none⟩) (m - 1) c) ∧ w'.ownsRow base 72 3 (.slice (some ⟨g, 0, none⟩) (m - 1) c) (m - 1) (xs.take (i * 3) ++ xs.drop ((i + 1) * 3)) ∧ w.grownBy w' (some g) := by
  obtain ⟨q, rfl⟩ : ∃ q, m = q + 1 := ⟨m - 1, by omega⟩
  exact Delete_any base i q g c xs w hown h1 hi (by omega)
theorem Km.ne_gone {base kb p : Nat} {s : KS} {bv sv : Value} {dv : Nat → Value} {w : World} {cs : Array Value} (h : Km base kb s bv sv dv w) (hb : Blk w p 35 cs) (g : Nat) (hk : KK kb s.m bv sv dv g) : g ≠ p := fun e => by
  subst e
  rcases hk with hk | hk | hk | ⟨j, hj, hk⟩
  · exact blk_ne' hb h.kbk (by decide) hk
  · exact own_ne_blk h.bo hb (by decide) hk
  · exact own_ne_blk h.so hb (by decide) hk
  · exact own_ne_blk (h.dd.own j hj) hb (by decide) hk
/-- .. its blocks are the keeper's blocks as they were -/
theorem KK.cut {kb i gs cs m : Nat} {bv : Value} {dv : Nat → Value} (him : i < m) {g : Nat} (h : KK kb (m - 1) bv (.slice (some ⟨gs, 0, none⟩) (m - 1) cs) (cutAt dv i) g) : KK kb m bv (.slice (some ⟨gs, 0, none⟩) m cs) dv g := by
  rcases h with h | h | h | ⟨j, hj, h⟩
  · exact .inl h
  · exact .inr (.inl h)
  · exact .inr (.inr (.inl h))
  · rw [cutAt_sg] at h
    exact .inr (.inr (.inr ⟨_, sg_lt him hj, h⟩))
end Go.Proofs.Ytiffgeglbafenaa.snap
