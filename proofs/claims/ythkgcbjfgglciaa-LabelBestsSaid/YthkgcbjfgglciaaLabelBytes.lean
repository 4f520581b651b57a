/-
  Contracts: numbers written as bytes, the lowest first; the reference's too.
-/
import Derived.Test.YthkgcbjfgglciaaRow
import Derived.Test.YthkgcbjfgglciaaBits
import Derived.Test.YthkgcbjfgglciaaFletRef
import Derived.IntWalk
namespace Go.Proofs.Ythkgcbjfgglciaa.label
open Go.ChangeShapes Go.WideShapes Go.ChangeAt Go.RowKit Go.Proofs.Ythkgcbjfgglciaa.kit Go.Proofs.Ythkgcbjfgglciaa.flet Go.Deep
set_option linter.unusedVariables false

theorem infoU8 : (Try.prog.info? 5).map (fun i => (i.zero, i.size, i.bytes)) = some (some (.int .u8 0), 1, 1) := by kernel_rfl
/-- a number without its k lowest bytes -/
def shrI (x : Int) : Nat → Int
  | 0 => x
  | k + 1 => shrI x k / 256
def lowB (x : Int) (k : Nat) : Nat := (shrI x k % 256).toNat
theorem lowB_lt (x : Int) (k : Nat) : lowB x k < 256 := by unfold lowB; omega
theorem lowB_int (x : Int) (k : Nat) : ((lowB x k : Nat) : Int) = shrI x k % 256 := by unfold lowB; omega
theorem shrI_bd {x : Int} (h1 : -9223372036854775808 ≤ x) (h2 : x ≤ 9223372036854775807) : ∀ k, -9223372036854775808 ≤ shrI x k ∧ shrI x k ≤ 9223372036854775807
  | 0 => ⟨h1, h2⟩
  | k + 1 => by have := shrI_bd h1 h2 k; unfold shrI; omega
/-- two's complement, without its k lowest bytes -/
theorem shrI_u (x : Int) (h1 : -9223372036854775808 ≤ x) (h2 : x ≤ 9223372036854775807) (k : Nat) (hk : k < 8) : shrI (x % 18446744073709551616) k % 256 = shrI x k % 256 := by
  have hx : x % 18446744073709551616 = x ∨ x % 18446744073709551616 = x + 18446744073709551616 := by omega
  rcases hx with hx | hx
  · rw [hx]
  · rw [hx]
    match k, hk with
    | 0, _ => simp only [shrI]; omega
    | 1, _ => simp only [shrI]; omega
    | 2, _ => simp only [shrI]; omega
    | 3, _ => simp only [shrI]; omega
    | 4, _ => simp only [shrI]; omega
    | 5, _ => simp only [shrI]; omega
    | 6, _ => simp only [shrI]; omega
    | 7, _ => simp only [shrI]; omega
/-- bytes that are written -/
def byW (f : Nat → Value) (k q : Nat) (x : Int) : Nat → Value := fun i => if k ≤ i ∧ i < k + q then .int .u8 (lowB x (i - k) : Nat) else f i
theorem byW_none (f : Nat → Value) (k : Nat) (x : Int) : byW f k 0 x = f := by funext i; unfold byW; rw [if_neg (by omega)]
theorem byW_next (f : Nat → Value) (k q : Nat) (x : Int) : (fun i => if i = k + q then Value.int .u8 (lowB x q : Nat) else byW f k q x i) = byW f k (q + 1) x := by
  funext i
  unfold byW
  by_cases hi : i = k + q
  · subst hi; rw [if_pos rfl, if_pos (by omega), show k + q - k = q by omega]
  · rw [if_neg hi]
    by_cases h : k ≤ i ∧ i < k + q
    · rw [if_pos h, if_pos (by omega)]
    · rw [if_neg h, if_neg (by omega)]
/-- bytes, and noughts behind them -/
def upF (F : Nat → Nat) (N : Nat) : Nat → Value := fun i => .int .u8 ((if i < N then F i else 0 : Nat) : Int)
theorem upF_next (F : Nat → Nat) (N : Nat) (y : Nat) (h : F N = y) : (fun i => if i = N then Value.int .u8 (y : Int) else upF F N i) = upF F (N + 1) := by
  funext i
  unfold upF
  by_cases hi : i = N
  · subst hi; rw [if_pos rfl, if_pos (by omega), h]
  · rw [if_neg hi]
    by_cases h2 : i < N
    · rw [if_pos h2, if_pos (by omega)]
    · rw [if_neg h2, if_neg (by omega)]
theorem upF_same {F G : Nat → Nat} {N M : Nat} (h : ∀ i, (if i < N then F i else 0) = (if i < M then G i else 0)) : upF F N = upF G M := by
  funext i
  unfold upF
  rw [h i]
def rowN (F : Nat → Nat) (n : Nat) : List Value := (List.range n).map fun i => .int .u8 (F i : Nat)
theorem rowN_len (F : Nat → Nat) (n : Nat) : (rowN F n).length = n := by simp [rowN]
theorem rowN_at (F : Nat → Nat) (n i : Nat) (h : i < n) : (rowN F n)[i]? = some (.int .u8 (F i : Nat)) := by simp [rowN, h]
theorem rowN_app (F G : Nat → Nat) (n m : Nat) (h : ∀ k, k < m → F (n + k) = G k) : rowN F n ++ rowN G m = rowN F (n + m) := by
  unfold rowN
  rw [List.range_add, List.map_append, List.map_map]
  congr 1
  apply List.map_congr_left
  intro k hk
  simp [h k (List.mem_range.1 hk)]
theorem rowN_zero (F : Nat → Nat) (n m : Nat) (h : ∀ k, k < m → F (n + k) = 0) : rowN F n ++ List.replicate m (.int .u8 0) = rowN F (n + m) := by
  rw [← rowN_app F (fun _ => 0) n m h]
  congr 1
  unfold rowN
  apply List.ext_getElem?
  intro i
  by_cases hi : i < m
  · simp [hi]
  · simp [hi]
theorem rowN_same {F G : Nat → Nat} {n : Nat} (h : ∀ k, k < n → F k = G k) : rowN F n = rowN G n := by
  unfold rowN
  apply List.map_congr_left
  intro k hk
  rw [h k (List.mem_range.1 hk)]
/-- an own row of bytes, read -/
theorem own_rdB {w : World} {base : Nat} {v : Value} {n : Nat} {t : TypeId} {F : Nat → Nat} (h : w.ownsRow base t 1 v n (rowN F n)) (hF : ∀ i, i < n → F i < 256) (hn : n ≤ maxLen) : ∃ A c, v = .slice A n c ∧ n ≤ c ∧ c ≤ maxLen ∧ RdB w A n F ∧ (0 < n → ∃ g, A = some ⟨g, 0, none⟩ ∧ base ≤ g ∧ g < w.heap.size ∧ ∀ j u, (rowN F n)[j]? = some u → w.cell? ⟨g, j, none⟩ = some u) := by
  obtain ⟨A, c, rfl, h1, h2, h3, h4⟩ := own_open h
  refine ⟨A, c, rfl, h1, h2, ⟨hn, hF, fun h0 => ?_⟩, fun h0 => ?_⟩
  · obtain ⟨g, rfl, _, hg⟩ := h3 h0
    exact ⟨g, 0, rfl, hg, fun i hi => by have := h4 g rfl i _ (rowN_at F n i hi); simpa using this⟩
  · obtain ⟨g, rfl, hb, hg⟩ := h3 h0
    exact ⟨g, rfl, hb, hg, h4 g rfl⟩
set_option maxRecDepth 100000 in
theorem write_any (g k s : Nat) (F : Nat → Nat) (x : Int) (w : World) (hrow : w.rowIs g 5 128 (upF F k)) (hk : k + s ≤ 128) (hF : ∀ q, q < s → F (k + q) = lowB x q) (h1 : -9223372036854775808 ≤ x) (h2 : x ≤ 9223372036854775807) :
    Calls Try.prog 53 #[.slice (some ⟨g, 0, none⟩) k 128, .int .i64 x, .int .i64 s] w fun e w' => e = .returned (.slice (some ⟨g, 0, none⟩) (k + s : Nat) 128) ∧ w'.rowIs g 5 128 (upF F (k + s)) ∧ w.grownBy w' (some g) := by
  obtain ⟨i0, hi0, hz0, hz1, hz2⟩ := info_parts infoU8
  have hrow1 := Lib.hid hrow
  have hF1 := Lib.hid hF
  have hb0 := Lib.hid (shrI_bd h1 h2)
  clear hrow hF
  go_enter Try.func53, Try.ntmps53
  go_wp2
  go_loopw [0, 1, 8] (fun v n c wr => ∃ q : Nat, c = .int .i64 q ∧ q ≤ s ∧ v = .slice (some ⟨g, 0, none⟩) (k + q) 128 ∧ n = .int .i64 (shrI x q) ∧ w.grownBy wr (some g) ∧ wr.rowIs g 5 128 (upF F (k + q))) (fun _ _ c _ => s - (intOf c).toNat)
  case atStart => exact ⟨0, rfl, by omega, rfl, rfl, grown_refl _ _, hrow1.out⟩
  case round =>
    obtain ⟨q, rfl, hq, rfl, rfl, hg, hrw⟩ := hrel
    by_cases hlt : q < s
    · obtain ⟨y, hy⟩ : ∃ y, Hid (shrI x q = y) := ⟨_, (rfl : _ = _)⟩
      have hyb := hb0.out q
      rw [hy.out] at hyb ⊢
      obtain ⟨y1, y2⟩ := hyb
      have hrw1 := Lib.hid hrw
      have hgl := hrw.lt
      have hc := hrw.cell (i := k + q) (by omega)
      have hf := hrw.frozen (k + q)
      clear hrw
      have hlti : (q : Int) < (s : Int) := by omega
      go_wp2
      go_roundw
      case rel =>
        have hyl : y % 256 = ((lowB x q : Nat) : Int) := by rw [lowB_int, hy.out]
        rw [hyl]
        refine ⟨q + 1, by go_num, by omega, by rw [Nat.add_assoc], by rw [← hy.out]; rfl, (hg.trans (grown_set _ _ _ _)).trans (World.grownBy_alloc _ _ _), ?_⟩
        have hr := (hrw1.out.set (k + q) (.int .u8 ((lowB x q : Nat) : Int))).alloc (.cells #[.int .u8 ((lowB x q : Nat) : Int)] 5)
        rw [upF_next F (k + q) (lowB x q) (hF1.out q hlt)] at hr
        exact hr
      case measure => simp [intOf]; omega
    · have hin : q = s := by omega
      subst hin
      have hrw1 := Lib.hid hrw
      clear hrw
      go_wp2
      go_ret
      exact ⟨rfl, hrw1.out, hg⟩
set_option maxRecDepth 100000 in
theorem lowFirst_any (n : Nat) (x : Int) (w : World) (hn : n ≤ 8) (h1 : -9223372036854775808 ≤ x) (h2 : x ≤ 9223372036854775807) :
    Calls Try.prog 70 #[.int .i64 x, .int .i64 n] w fun e w' => ∃ v, e = .returned v ∧ w'.ownsRow w.heap.size 5 1 v n (rowN (lowB x) n) ∧ New w w' := by
  obtain ⟨i0, hi0, hz0, hz1, hz2⟩ := info_parts infoU8
  obtain ⟨X, hX⟩ : ∃ X, Hid (X = x % 18446744073709551616) := ⟨_, (rfl : _ = _)⟩
  have hw : IntKind.u64.wrap x = X := by rw [IntKind.wrap_u64, hX.out]
  have hXb : Hid (∀ k, 0 ≤ shrI X k ∧ shrI X k < 18446744073709551616) := by
    intro k
    induction k with
    | zero => unfold shrI; have := hX.out; omega
    | succ k ih => unfold shrI; omega
  have hlow : Hid (∀ q, q < 8 → shrI X q % 256 = ((lowB x q : Nat) : Int)) := fun q hq => by rw [lowB_int, hX.out]; exact shrI_u x h1 h2 q hq
  go_enter Try.func70, Try.ntmps70
  go_wp2
  go_loopw [5, 6, 7] (fun u v c wr => ∃ (q : Nat) (sv : Value), sv = v ∧ c = .int .i64 q ∧ q ≤ n ∧ u = .int .u64 (shrI X q) ∧ wr.ownsRow w.heap.size 5 1 sv q (rowN (lowB x) q) ∧ New w wr) (fun _ _ c _ => n - (intOf c).toNat)
  case atStart => exact ⟨0, _, rfl, rfl, by omega, rfl, World.ownsRow_nil _ _ _ _, New.refl w⟩
  case round =>
    obtain ⟨q, sv, rfl, rfl, hq, rfl, hown, hnw⟩ := hrel
    by_cases hlt : q < n
    · obtain ⟨y, hy⟩ : ∃ y, Hid (shrI X q = y) := ⟨_, (rfl : _ = _)⟩
      obtain ⟨y1, y2⟩ := hXb.out q
      rw [hy.out] at y1 y2 ⊢
      have hlti : (q : Int) < (n : Int) := by omega
      have hnext : Hid (rowN (lowB x) (q + 1) = rowN (lowB x) q ++ [.int .u8 (y % 256)]) := by
        rw [← hy.out, hlow.out q (by omega)]
        unfold rowN
        rw [List.range_succ, List.map_append]
        rfl
      have hhead : Hid (shrI X (q + 1) = y / 256) := by rw [← hy.out]; rfl
      go_wp2_with (at_builtin; refine wpList_append_own _ rfl _ _ 42 rfl w.heap.size 5 i0 _ 1 1 Try.underlying42 hi0 hz0 hz1 hz2 rfl (by decide) sv q (rowN (lowB x) q) rfl (hown.alloc _) ⟨wr.heap.size, 0, none⟩ 1 1 [.int .u8 (y % 256)] rfl rfl (World.news_of_block (cs := #[.int .u8 (y % 256)]) (t := 5) (fr := (0, 0)) (heap_alloc_new wr _)) (by simp [Value.oneCell']) (by unfold maxLen; omega) (by omega) (by have := hnw.size; simp; omega) ?_; intro v3 w3 hown3 hgrow hnil)
      rw [← hnext.out] at hown3
      have hN := hnw.append' hgrow fun g hg => (hown.lt _ hg).1
      go_wp2
      go_roundw
      case rel => exact ⟨q + 1, _, rfl, by go_num, by omega, by rw [hhead.out], hown3, hN⟩
      case measure => simp [intOf]; omega
    · have hin : q = n := by omega
      subst hin
      go_wp2
      go_ret
      exact ⟨_, rfl, hown, hnw⟩
end Go.Proofs.Ythkgcbjfgglciaa.label
