/-
  The forest: its versions; add.
-/
import Derived.Test.YtiffgeglbafenaaTreeRead
namespace Go.Proofs.Ytiffgeglbafenaa.tree
open Go.ChangeShapes Go.WideShapes Go.ChangeAt Go.RowKit Go.Proofs.Ytiffgeglbafenaa.kit Go.Deep
set_option linter.unusedVariables false
set_option maxRecDepth 100000
theorem infoVer : (Try.prog.info? 78).map (fun i => (i.zero, i.size, i.bytes)) = some (some (.agg #[.pointer none, .int .i64 0]), 2, 16) := by kernel_rfl
theorem infoSho : (Try.prog.info? 46).map (fun i => (i.zero, i.size, i.bytes)) = some (some (.agg #[.int .i64 0, .int .i64 0, .int .i64 0, .slice none 0 0]), 4, 48) := by kernel_rfl
/-- pairs of cells -/
def pairL (a b : Nat → Value) (n : Nat) : List Value := (List.range n).flatMap fun i => [a i, b i]
theorem pairL_len (a b : Nat → Value) : ∀ n, (pairL a b n).length = n * 2
  | 0 => rfl
  | n + 1 => by unfold pairL; rw [List.range_succ, List.flatMap_append, List.length_append]; have := pairL_len a b n; unfold pairL at this; rw [this]; simp; omega
theorem pairL_at (a b : Nat → Value) : ∀ n i, i < n → (pairL a b n)[i * 2]? = some (a i) ∧ (pairL a b n)[i * 2 + 1]? = some (b i)
  | 0, i, h => absurd h (Nat.not_lt_zero i)
  | n + 1, i, h => by
    have hl := pairL_len a b n
    have hr := pairL_at a b n i
    unfold pairL at hl hr ⊢
    rw [List.range_succ, List.flatMap_append]
    by_cases e : i < n
    · rw [List.getElem?_append_left (by omega), List.getElem?_append_left (by omega)]
      exact hr e
    · have : i = n := by omega
      subst this
      rw [List.getElem?_append_right (by omega), List.getElem?_append_right (by omega), hl]
      simp
theorem pairL_more (a b : Nat → Value) (n : Nat) (x y : Value) : pairL (fun i => if i = n then x else a i) (fun i => if i = n then y else b i) (n + 1) = pairL a b n ++ [x, y] := by
  unfold pairL
  rw [List.range_succ, List.flatMap_append]
  congr 1
  · rw [List.flatMap_def, List.flatMap_def]
    congr 1
    apply List.map_congr_left
    intro i hi
    have hi := List.mem_range.1 hi
    simp [show i ≠ n by omega]
  · simp
theorem altAt {w w' : World} {g : Nat} (h : Alt (fun k => k = g) w w') (k : Nat) (u : Value) : Alt (fun k => k = g) w (w'.setCell ⟨g, k, none⟩ u) := h.set (.inl rfl) u
/-- what add leaves -/
def AddP (base fb n : Nat) (vA : Option Addr) (vc : Nat) (xs : List Value) (p : Option Addr) (sz : Nat) (w : World) (e : Ending) (w' : World) : Prop :=
  e = .returned (.agg #[.int .i64 0, .int .i64 n, .int .i64 sz, .slice none 0 0]) ∧
  (∃ vA' vc', Fb w' fb (.slice vA' (n + 1) vc') ∧ w'.ownsRow base 78 2 (.slice vA' (n + 1) vc') (n + 1) (xs ++ [.pointer p, .int .i64 sz])) ∧ Alt (fun k => k = fb ∨ Value.ownBlock (.slice vA n vc) = some k) w w'
theorem Add_any (base fb n vc sz : Nat) (vA p : Option Addr) (xs : List Value) (w : World) (hF : Fb w fb (.slice vA n vc)) (hO : w.ownsRow base 78 2 (.slice vA n vc) n xs) (hn : n ≤ 1000) (hb : base ≤ w.heap.size) (hfb : base ≤ fb) :
    Calls Try.prog 23 #[ptr fb, .agg #[.pointer p, .int .i64 (sz : Nat)]] w (AddP base fb n vA vc xs p sz w) := by
  obtain ⟨i0, hi0, hz0, hz1, hz2⟩ := info_parts infoVer
  obtain ⟨m, hm⟩ := hF
  obtain ⟨W1, hW1⟩ : ∃ W1, W1 = (w.alloc (.cells #[.pointer p, .int .i64 sz] 78)).alloc (.cells #[.int .i64 0, .int .i64 0, .int .i64 0, .slice none 0 0] 46) := ⟨_, rfl⟩
  have hn1 : New w W1 := by rw [hW1]; exact ((New.refl w).alloc _).alloc _
  have hv : Hid (Blk W1 w.heap.size 78 #[.pointer p, .int .i64 sz]) := by show Blk _ _ _ _; rw [hW1]; exact (Blk.fresh w _ _).alloc _
  have hr : Hid (Blk W1 (w.heap.size + 1) 46 #[.int .i64 0, .int .i64 0, .int .i64 0, .slice none 0 0]) := by
    have := Blk.fresh (w.alloc (.cells #[.pointer p, .int .i64 sz] 78)) 46 #[.int .i64 0, .int .i64 0, .int .i64 0, .slice none 0 0]
    show Blk _ _ _ _
    rw [hW1]
    simpa using this
  have hF1 := Lib.hid (hm.new hn1)
  have hO1 := own_new hO hn1
  have hOlt : Hid (∀ g, Value.ownBlock (.slice vA n vc) = some g → g < w.heap.size) := fun g hg => (hO.lt g hg).2
  have hn1H := Lib.hid hn1
  have hsz1 : w.heap.size + 1 < W1.heap.size := by rw [hW1]; simp
  have hfbl := hm.lt
  clear hm hO hn1
  go_enter Try.func23, Try.ntmps23
  go_upto_region 1 with fail
  rw [← hW1]
  clear hW1
  have f0 := hF1.out.cell 0
  have f1 := hF1.out.frozen 0
  have v0 := hv.out.cell 0
  have v1 := hv.out.cell 1
  have f0a := (hF1.out.alloc (.cells #[.pointer p, .int .i64 sz] 78)).cell 0
  have f1a := (hF1.out.alloc (.cells #[.pointer p, .int .i64 sz] 78)).frozen 0
  simp at f0 v0 v1 f0a
  go_region_law
    (first
      | (refine step_append_lies _ (by rfl) _ _ 63 (by rfl) base 78 i0 _ 2 16 Try.underlying63 hi0 hz0 hz1 hz2 rfl (by decide) (.slice vA n vc) n xs (by rfl) (hO1.alloc _) ⟨W1.heap.size, 0, none⟩ 1 1 [.pointer p, .int .i64 sz] (by rfl) (by rfl) (World.news_of_block (cs := #[.pointer _, .int .i64 _]) (t := 78) (fr := (0, 0)) (heap_alloc_new W1 _)) (by simp [Value.oneCell']) (by omega) (by unfold maxLen; omega) (by omega) (by simp; omega) (W1.heap.size + 1) (by simp) ?_; intro g7 c7 w7 hown7 hgr7 hat7 hlt7
         have hbq := (hF1.out.alloc (.cells #[.pointer p, .int .i64 sz] 78)).drew
         have hb7 := hbq.grown hgr7 (own_ne_blk (hO1.alloc (.cells #[.pointer p, .int .i64 sz] 78)).drew hbq (by decide))
         have f7 := hb7.cell 0
         have f8 := hb7.frozen 0
         have hb8 := hb7.put 0 (.slice (some ⟨g7, 0, none⟩) (n + 1) c7)
         have f9 := hb8.cell 0
         have hvq := (hv.out.alloc (.cells #[.pointer p, .int .i64 sz] 78)).drew
         have hrq := (hr.out.alloc (.cells #[.pointer p, .int .i64 sz] 78)).drew
         simp at f7 f9))
  all_goals
    obtain ⟨W8, hW8⟩ : ∃ W8, W8 = w7.setCell ⟨fb, 0, none⟩ (.slice (some ⟨g7, 0, none⟩) (n + 1) c7) := ⟨_, rfl⟩
    have hfin : Hid (Fb W8 fb (.slice (some ⟨g7, 0, none⟩) (n + 1) c7) ∧ W8.ownsRow base 78 2 (.slice (some ⟨g7, 0, none⟩) (n + 1) c7) (n + 1) (xs ++ [.pointer p, .int .i64 sz]) ∧ Alt (fun k => k = fb ∨ Value.ownBlock (.slice vA n vc) = some k) w W8) := by
      rw [hW8]
      refine ⟨⟨m, hb8⟩, hown7.kept (grown_set w7 fb 0 _) (.inr fun e => own_ne_blk hown7 hb7 (by decide) e), ?_⟩
      exact (Alt.grown ((Alt.of_new hn1H.out).alloc _).drew hgr7 fun r e => .inl (.inr e)).set (.inl (.inl rfl)) _
    have hv8 : Blk W8 w.heap.size 78 #[.pointer p, .int .i64 sz] := by rw [hW8]; exact (hvq.grown hgr7 fun e => by have := hOlt.out _ e; omega).far (by simp; omega) _
    have hr8 : Hid (Blk W8 (w.heap.size + 1) 46 #[.int .i64 0, .int .i64 0, .int .i64 0, .slice none 0 0]) := by rw [hW8]; exact (hrq.grown hgr7 (own_ne_blk (hO1.alloc (.cells #[.pointer p, .int .i64 sz] 78)).drew hrq (by decide))).far (by simp; omega) _
    have f10 : W8.cell? ⟨fb, 0, none⟩ = some (.slice (some ⟨g7, 0, none⟩) (n + 1) c7) := by rw [hW8]; exact f9
    rw [← hW8]
    clear hW8 hown7 hgr7 hat7 hlt7 hbq hb7 f7 f8 hb8 f9 hvq hrq f0 f1 f0a f1a v0 v1 hO1
    have v1 := hv8.cell 1
    have r0 := hr8.out.cell 0
    have r1 := hr8.out.cell 1
    have r2 := hr8.out.cell 2
    have r3 := hr8.out.cell 3
    have z0 := hr8.out.frozen 0
    have z1 := hr8.out.frozen 1
    have z2 := hr8.out.frozen 2
    have z3 := hr8.out.frozen 3
    simp at v1 r0 r1 r2 r3
    have hv8 := Lib.hid hv8
    clear hv8
    go_wp2_with fail
    have hr9 := (((hr8.out.put 0 (.int .i64 0)).put 1 (.int .i64 (n : Nat))).put 2 (.int .i64 (sz : Nat))).put 3 (.slice none 0 0)
    have hne : w.heap.size + 1 ≠ fb := by omega
    have hfin9 : Hid (Fb ((((W8.setCell ⟨w.heap.size + 1, 0, none⟩ (.int .i64 0)).setCell ⟨w.heap.size + 1, 1, none⟩ (.int .i64 (n : Nat))).setCell ⟨w.heap.size + 1, 2, none⟩ (.int .i64 (sz : Nat))).setCell ⟨w.heap.size + 1, 3, none⟩ (.slice none 0 0)).drew fb (.slice (some ⟨g7, 0, none⟩) (n + 1) c7) ∧
        ((((W8.setCell ⟨w.heap.size + 1, 0, none⟩ (.int .i64 0)).setCell ⟨w.heap.size + 1, 1, none⟩ (.int .i64 (n : Nat))).setCell ⟨w.heap.size + 1, 2, none⟩ (.int .i64 (sz : Nat))).setCell ⟨w.heap.size + 1, 3, none⟩ (.slice none 0 0)).drew.ownsRow base 78 2 (.slice (some ⟨g7, 0, none⟩) (n + 1) c7) (n + 1) (xs ++ [.pointer p, .int .i64 sz]) ∧
        Alt (fun k => k = fb ∨ Value.ownBlock (.slice vA n vc) = some k) w ((((W8.setCell ⟨w.heap.size + 1, 0, none⟩ (.int .i64 0)).setCell ⟨w.heap.size + 1, 1, none⟩ (.int .i64 (n : Nat))).setCell ⟨w.heap.size + 1, 2, none⟩ (.int .i64 (sz : Nat))).setCell ⟨w.heap.size + 1, 3, none⟩ (.slice none 0 0)).drew) := by
      obtain ⟨q1, q2, q3⟩ := hfin.out
      have ha : Alt (fun k => k = w.heap.size + 1) W8 ((((W8.setCell ⟨w.heap.size + 1, 0, none⟩ (.int .i64 0)).setCell ⟨w.heap.size + 1, 1, none⟩ (.int .i64 (n : Nat))).setCell ⟨w.heap.size + 1, 2, none⟩ (.int .i64 (sz : Nat))).setCell ⟨w.heap.size + 1, 3, none⟩ (.slice none 0 0)).drew :=
        (altAt (altAt (altAt (altAt (Alt.refl W8) _ _) _ _) _ _) _ _).drew
      refine ⟨q1.alt ha (Ne.symm hne), ha.own q2 fun g hg e => own_ne_blk q2 hr8.out (by decide) (by rw [hg, e]), q3.trans' ha fun i hi => .inr (by omega)⟩
    have x0 := hr9.cell 0
    have x1 := hr9.cell 1
    have x2 := hr9.cell 2
    have x3 := hr9.cell 3
    simp at x0 x1 x2 x3
    have hx := Lib.hid (And.intro x0 (And.intro x1 (And.intro x2 x3)))
    clear hr9 x0 x1 x2 x3
    go_region
    go_wp2
    obtain ⟨x0, x1, x2, x3⟩ := hx.out
    exact bodyPost_ret (v := .agg #[.int .i64 0, .int .i64 n, .int .i64 sz, .slice none 0 0]) (by simp [results, Try.results23, go_sem, x0, x1, x2, x3]) rfl ⟨rfl, ⟨_, _, hfin9.out.1, hfin9.out.2.1⟩, hfin9.out.2.2⟩
end Go.Proofs.Ytiffgeglbafenaa.tree
