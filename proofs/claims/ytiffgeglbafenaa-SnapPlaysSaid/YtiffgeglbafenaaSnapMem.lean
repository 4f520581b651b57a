/-
  A keeper in memory.
-/
import Derived.Test.YtiffgeglbafenaaProg
import Derived.Test.YtiffgeglbafenaaSnapLaw
import Derived.Test.YtiffgeglbafenaaAlt
import Derived.Test.YtiffgeglbafenaaRowK
import Derived.Test.YtiffgeglbafenaaQuietTail
import Derived.Handy
import Derived.BigRegion
import Derived.Deep.OwnRows
import Derived.Deep.MidRow
import Derived.Deep.AppendLies
import Derived.Deep.Onto
import Derived.OwnWalk
import Derived.Maps.AppendAt
import Derived.Great.Walk
import Derived.Lib.SliceRun
import Derived.Lib.MinMax
import Derived.Deep.RegionHeld3
import Derived.Deep.DeepCutAuto
import Derived.Deep.CutBlock
import Derived.IntWalk
namespace Go.Proofs.Ytiffgeglbafenaa.snap
open Go.ChangeShapes Go.WideShapes Go.ChangeAt Go.RowKit Go.Proofs.Ytiffgeglbafenaa.kit Go.Deep
set_option linter.unusedVariables false
set_option maxRecDepth 100000
abbrev ptr (g : Nat) : Value := .pointer (some ⟨g, 0, none⟩)
/-- pairs of cells -/
def pairL (a b : Nat → Value) (n : Nat) : List Value := (List.range n).flatMap fun i => [a i, b i]
theorem pairL_len (a b : Nat → Value) : ∀ n, (pairL a b n).length = n * 2
  | 0 => rfl
  | n + 1 => by unfold pairL; rw [List.range_succ, List.flatMap_append, List.length_append]; have := pairL_len a b n; unfold pairL at this; rw [this]; simp; omega
theorem pairL_at (a b : Nat → Value) : ∀ n i, i < n → (pairL a b n)[i * 2]? = some (a i) ∧ (pairL a b n)[i * 2 + 1]? = some (b i)
  | 0, i, h => absurd h (Nat.not_lt_zero i)
  | n + 1, i, h => by
    have hl := pairL_len a b n
    have hr := pairL_at a b n i
    unfold pairL at hl hr ⊢
    rw [List.range_succ, List.flatMap_append]
    by_cases e : i < n
    · rw [List.getElem?_append_left (by omega), List.getElem?_append_left (by omega)]
      exact hr e
    · have : i = n := by omega
      subst this
      rw [List.getElem?_append_right (by omega), List.getElem?_append_right (by omega), hl]
      simp
theorem pairL_congr {a b a' b' : Nat → Value} {n : Nat} (h : ∀ i, i < n → a i = a' i ∧ b i = b' i) : pairL a b n = pairL a' b' n := by
  unfold pairL
  rw [List.flatMap_def, List.flatMap_def]
  congr 1
  apply List.map_congr_left
  intro i hi
  have hi := List.mem_range.1 hi
  rw [(h i hi).1, (h i hi).2]
theorem pairL_succ (a b : Nat → Value) (n : Nat) : pairL a b (n + 1) = pairL a b n ++ [a n, b n] := by
  unfold pairL
  rw [List.range_succ, List.flatMap_append]
  simp
/-- a list is known by its cells -/
theorem list_ext {xs ys : List Value} (h : xs.length = ys.length) (he : ∀ k, k < xs.length → xs[k]? = ys[k]?) : xs = ys := by
  apply List.ext_getElem?
  intro k
  by_cases hk : k < xs.length
  · exact he k hk
  · rw [List.getElem?_eq_none (by omega), List.getElem?_eq_none (by omega)]
theorem pairL_set1 (a b : Nat → Value) (n i : Nat) (u : Value) (hi : i < n) : (pairL a b n).set (i * 2 + 1) u = pairL a (upd b i u) n := by
  refine list_ext (by rw [List.length_set, pairL_len, pairL_len]) fun k hk => ?_
  rw [List.length_set, pairL_len] at hk
  have hk2 : k / 2 < n := by omega
  obtain ⟨p0, p1⟩ := pairL_at a b n (k / 2) hk2
  obtain ⟨q0, q1⟩ := pairL_at a (upd b i u) n (k / 2) hk2
  rw [List.getElem?_set]
  by_cases e : i * 2 + 1 = k
  · rw [if_pos e, if_pos (by rw [pairL_len]; omega)]
    have : k / 2 = i := by omega
    rw [this, upd_same] at q1
    rw [← e, q1]
  · rw [if_neg e]
    rcases Nat.mod_two_eq_zero_or_one k with h2 | h2
    · rw [show k / 2 * 2 = k by omega] at p0 q0
      rw [p0, q0]
    · rw [show k / 2 * 2 + 1 = k by omega] at p1 q1
      rw [p1, q1, upd_ne _ _ (by omega)]
/-- triples of cells -/
def tripL (a b c : Nat → Value) (n : Nat) : List Value := (List.range n).flatMap fun i => [a i, b i, c i]
theorem tripL_len (a b c : Nat → Value) : ∀ n, (tripL a b c n).length = n * 3
  | 0 => rfl
  | n + 1 => by unfold tripL; rw [List.range_succ, List.flatMap_append, List.length_append]; have := tripL_len a b c n; unfold tripL at this; rw [this]; simp; omega
theorem tripL_at (a b c : Nat → Value) : ∀ n i, i < n → (tripL a b c n)[i * 3]? = some (a i) ∧ (tripL a b c n)[i * 3 + 1]? = some (b i) ∧ (tripL a b c n)[i * 3 + 2]? = some (c i)
  | 0, i, h => absurd h (Nat.not_lt_zero i)
  | n + 1, i, h => by
    have hl := tripL_len a b c n
    have hr := tripL_at a b c n i
    unfold tripL at hl hr ⊢
    rw [List.range_succ, List.flatMap_append]
    by_cases e : i < n
    · rw [List.getElem?_append_left (by omega), List.getElem?_append_left (by omega), List.getElem?_append_left (by omega)]
      exact hr e
    · have : i = n := by omega
      subst this
      rw [List.getElem?_append_right (by omega), List.getElem?_append_right (by omega), List.getElem?_append_right (by omega), hl]
      simp
theorem tripL_succ (a b c : Nat → Value) (n : Nat) : tripL a b c (n + 1) = tripL a b c n ++ [a n, b n, c n] := by
  unfold tripL
  rw [List.range_succ, List.flatMap_append]
  simp
theorem tripL_congr {a b c a' b' c' : Nat → Value} {n : Nat} (h : ∀ i, i < n → a i = a' i ∧ b i = b' i ∧ c i = c' i) : tripL a b c n = tripL a' b' c' n := by
  unfold tripL
  rw [List.flatMap_def, List.flatMap_def]
  congr 1
  apply List.map_congr_left
  intro i hi
  have hi := List.mem_range.1 hi
  rw [(h i hi).1, (h i hi).2.1, (h i hi).2.2]
theorem tripL_ext {a b c : Nat → Value} {n : Nat} {xs : List Value} (hl : xs.length = n * 3) (h : ∀ i, i < n → xs[i * 3]? = some (a i) ∧ xs[i * 3 + 1]? = some (b i) ∧ xs[i * 3 + 2]? = some (c i)) : xs = tripL a b c n := by
  refine list_ext (by rw [hl, tripL_len]) fun k hk => ?_
  have hk3 : k / 3 < n := by omega
  obtain ⟨p0, p1, p2⟩ := h (k / 3) hk3
  obtain ⟨q0, q1, q2⟩ := tripL_at a b c n (k / 3) hk3
  have h3 : k % 3 = 0 ∨ k % 3 = 1 ∨ k % 3 = 2 := by omega
  rcases h3 with h3 | h3 | h3
  · rw [show k / 3 * 3 = k by omega] at p0 q0
    rw [p0, q0]
  · rw [show k / 3 * 3 + 1 = k by omega] at p1 q1
    rw [p1, q1]
  · rw [show k / 3 * 3 + 2 = k by omega] at p2 q2
    rw [p2, q2]
theorem tripL_set2 (a b c : Nat → Value) (n i : Nat) (u : Value) (hi : i < n) : (tripL a b c n).set (i * 3 + 2) u = tripL a b (upd c i u) n := by
  refine tripL_ext (by rw [List.length_set, tripL_len]) fun j hj => ?_
  obtain ⟨p0, p1, p2⟩ := tripL_at a b c n j hj
  rw [List.getElem?_set, List.getElem?_set, List.getElem?_set, if_neg (by omega), if_neg (by omega)]
  refine ⟨p0, p1, ?_⟩
  by_cases e : j = i
  · subst e
    rw [if_pos rfl, if_pos (by rw [tripL_len]; omega), upd_same]
  · rw [if_neg (by omega), upd_ne _ _ e]
    exact p2
/-- a cell of an owned row is written -/
theorem own_set {w : World} {B : Nat} {e : TypeId} {size n c g k : Nat} {xs : List Value} (h : w.ownsRow B e size (.slice (some ⟨g, 0, none⟩) n c) n xs) (hk : k < xs.length) (u : Value) : (w.setCell ⟨g, k, none⟩ u).ownsRow B e size (.slice (some ⟨g, 0, none⟩) n c) n (xs.set k u) := by
  refine ⟨by rw [List.length_set]; exact h.1, ?_⟩
  rcases h.2 with ⟨h0, _⟩ | ⟨g', cap, cur, h0, hb, hg, h1, h2, h3, h4⟩
  · cases h0
  · injection h0 with h01 h02 h03
    injection h01 with h01
    injection h01 with h01 _ _
    subst h01
    subst h03
    have hg' : Blk w g e cur := hg
    refine .inr ⟨g, c, cur.setIfInBounds k u, rfl, hb, hg'.put k u, h1, h2, by simpa using h3, ?_⟩
    have hkn : k < n * size := by rw [← h.1]; exact hk
    apply List.ext_getElem?
    intro j
    have h5 := congrArg (fun l : List Value => l[j]?) h4
    simp only [List.getElem?_take] at h5 ⊢
    rw [List.getElem?_set]
    by_cases hj : j < n * size
    · rw [if_pos hj] at h5 ⊢
      have h3' : n * size ≤ cur.size := by rw [h3]; exact Nat.mul_le_mul_right _ h1
      have e1 : (cur.setIfInBounds k u).toList[j]? = (cur.setIfInBounds k u)[j]? := Array.getElem?_toList
      have e2 : cur.toList[j]? = cur[j]? := Array.getElem?_toList
      rw [e1, Array.getElem?_setIfInBounds]
      rw [e2] at h5
      by_cases e : k = j
      · rw [if_pos e, if_pos e, if_pos (by omega), if_pos hk]
      · rw [if_neg e, if_neg e]
        exact h5
    · rw [if_neg hj] at h5 ⊢
      rw [if_neg (by omega)]
      exact h5
theorem nodup_le : ∀ {n : Nat} {l : List Nat}, l.Nodup → (∀ x, x ∈ l → x < n) → l.length ≤ n
  | 0, l, _, h => by
    cases l with
    | nil => exact Nat.le_refl _
    | cons x l => exact absurd (h x (List.mem_cons_self ..)) (Nat.not_lt_zero x)
  | n + 1, l, hn, h => by
    have h1 := nodup_le (n := n) (hn.erase n) fun x hx => by
      have := (hn.mem_erase_iff).1 hx
      have := h x this.2
      omega
    have h2 : l.length ≤ (l.erase n).length + 1 := by
      rw [List.length_erase]
      split <;> omega
    omega
/-- numbers as cells -/
def intL (l : List Nat) : List Value := l.map fun b => .int .i64 (b : Nat)
theorem intL_len (l : List Nat) : (intL l).length = l.length := List.length_map ..
theorem intL_more (l : List Nat) (b : Nat) : intL (l ++ [b]) = intL l ++ [.int .i64 (b : Nat)] := by simp [intL]
/-- a row of numbers of one's own -/
abbrev OwnI (w : World) (base : Nat) (v : Value) (l : List Nat) : Prop := w.ownsRow base 3 1 v l.length (intL l)
/-- lists of numbers, each in a row of its own, apart -/
structure Dd (base m : Nat) (ds : Nat → List Nat) (dv : Nat → Value) (w : World) : Prop where
  own : ∀ i, i < m → OwnI w base (dv i) (ds i)
  apart : ∀ i j g, i < m → j < m → (dv i).ownBlock = some g → (dv j).ownBlock = some g → i = j
/-- a keeper -/
structure Km (base kb : Nat) (s : KS) (bv sv : Value) (dv : Nat → Value) (w : World) : Prop where
  kbk : Blk w kb 52 #[.int .i64 (s.now : Nat), bv, sv, .int .i64 (s.kept : Nat)]
  bo : w.ownsRow base 69 2 bv s.n (pairL (fun i => .int .i64 (s.born i : Nat)) (fun i => .bool (s.lives i)) s.n)
  so : w.ownsRow base 72 3 sv s.m (tripL (fun i => .int .i64 (s.num i : Nat)) (fun i => .int .i64 (s.made i : Nat)) dv s.m)
  dd : Dd base s.m s.dead dv w
  ge : base ≤ kb
/-- its blocks -/
def KK (kb m : Nat) (bv sv : Value) (dv : Nat → Value) (k : Nat) : Prop := k = kb ∨ bv.ownBlock = some k ∨ sv.ownBlock = some k ∨ ∃ i, i < m ∧ (dv i).ownBlock = some k
theorem Dd.alt {K : Nat → Prop} {base m : Nat} {ds : Nat → List Nat} {dv : Nat → Value} {w w' : World} (h : Dd base m ds dv w) (ha : Alt K w w') (hK : ∀ i g, i < m → (dv i).ownBlock = some g → ¬ K g) : Dd base m ds dv w' :=
  ⟨fun i hi => ha.own (h.own i hi) fun g hg => hK i g hi hg, h.apart⟩
theorem Km.alt {K : Nat → Prop} {base kb : Nat} {s : KS} {bv sv : Value} {dv : Nat → Value} {w w' : World} (h : Km base kb s bv sv dv w) (ha : Alt K w w') (hK : ∀ g, KK kb s.m bv sv dv g → ¬ K g) : Km base kb s bv sv dv w' :=
  ⟨ha.blk h.kbk (hK _ (.inl rfl)), ha.own h.bo fun g hg => hK g (.inr (.inl hg)), ha.own h.so fun g hg => hK g (.inr (.inr (.inl hg))), h.dd.alt ha fun i g hi hg => hK g (.inr (.inr (.inr ⟨i, hi, hg⟩))), h.ge⟩
theorem Km.new {base kb : Nat} {s : KS} {bv sv : Value} {dv : Nat → Value} {w w' : World} (h : Km base kb s bv sv dv w) (hn : New w w') : Km base kb s bv sv dv w' := h.alt (Alt.of_new (K := fun _ => False) hn) fun _ _ f => f
theorem Km.lt {base kb : Nat} {s : KS} {bv sv : Value} {dv : Nat → Value} {w : World} (h : Km base kb s bv sv dv w) {g : Nat} (hg : KK kb s.m bv sv dv g) : base ≤ g ∧ g < w.heap.size := by
  rcases hg with rfl | hg | hg | ⟨i, hi, hg⟩
  · exact ⟨h.ge, h.kbk.lt⟩
  · exact h.bo.lt _ hg
  · exact h.so.lt _ hg
  · exact (h.dd.own i hi).lt _ hg
/-- the keeper's own cells are written -/
theorem Km.putNow {base kb : Nat} {s : KS} {bv sv : Value} {dv : Nat → Value} {w : World} (h : Km base kb s bv sv dv w) (x : Nat) : Km base kb { s with now := x } bv sv dv (w.setCell ⟨kb, 0, none⟩ (.int .i64 (x : Nat))) := by
  have hg := grown_set w kb 0 (.int .i64 (x : Nat))
  exact ⟨h.kbk.put 0 _, h.bo.kept hg (.inr fun e => own_ne_blk h.bo h.kbk (by decide) e), h.so.kept hg (.inr fun e => own_ne_blk h.so h.kbk (by decide) e), ⟨fun i hi => (h.dd.own i hi).kept hg (.inr fun e => own_ne_blk (h.dd.own i hi) h.kbk (by decide) e), h.dd.apart⟩, h.ge⟩
theorem Km.putKept {base kb : Nat} {s : KS} {bv sv : Value} {dv : Nat → Value} {w : World} (h : Km base kb s bv sv dv w) (x : Nat) : Km base kb { s with kept := x } bv sv dv (w.setCell ⟨kb, 3, none⟩ (.int .i64 (x : Nat))) := by
  have hg := grown_set w kb 3 (.int .i64 (x : Nat))
  exact ⟨h.kbk.put 3 _, h.bo.kept hg (.inr fun e => own_ne_blk h.bo h.kbk (by decide) e), h.so.kept hg (.inr fun e => own_ne_blk h.so h.kbk (by decide) e), ⟨fun i hi => (h.dd.own i hi).kept hg (.inr fun e => own_ne_blk (h.dd.own i hi) h.kbk (by decide) e), h.dd.apart⟩, h.ge⟩
end Go.Proofs.Ytiffgeglbafenaa.snap
