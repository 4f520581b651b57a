/-
  Contract of the reference's picks: rows of rows of the call's own. 
-/
import Derived.Test.YtjmjnodaohbpfaaComb
import Derived.Laws.AppendOwnNone
import Derived.Lib.SmallJoins
namespace Go.Proofs.Ytjmjnodaohbpfaa.comb
open Go.ChangeShapes Go.WideShapes Go.ChangeAt Go.RowKit Go.Proofs.Ytjmjnodaohbpfaa.kit Go.Deep
set_option linter.unusedVariables false
set_option maxRecDepth 100000

/-- picks of k of d numbers from f on -/
def pickL : Nat → Nat → Nat → List (List Nat)
  | _, _, 0 => [[]]
  | 0, _, _ + 1 => []
  | d + 1, f, k + 1 => (pickL d (f + 1) k).map (fun l => f :: l) ++ pickL d (f + 1) (k + 1)
theorem pickL_zero (d f : Nat) : pickL d f 0 = [[]] := by cases d <;> rfl
theorem pickL_succ (d f k : Nat) : pickL (d + 1) f (k + 1) = (pickL d (f + 1) k).map (fun l => f :: l) ++ pickL d (f + 1) (k + 1) := by simp only [pickL]
theorem pickL_size : ∀ (d f k : Nat), (pickL d f k).length ≤ 2 ^ d
  | d, f, 0 => by rw [pickL_zero]; exact Nat.one_le_two_pow
  | 0, f, k + 1 => by simp [pickL]
  | d + 1, f, k + 1 => by
    have h1 := pickL_size d (f + 1) k
    have h2 := pickL_size d (f + 1) (k + 1)
    simp only [pickL, List.length_append, List.length_map]
    rw [Nat.pow_succ]; omega
theorem pickL_len : ∀ (d f k : Nat), ∀ l ∈ pickL d f k, l.length = k
  | d, f, 0, l, h => by rw [pickL_zero] at h; simp at h; subst h; rfl
  | 0, f, k + 1, l, h => by simp [pickL] at h
  | d + 1, f, k + 1, l, h => by
    simp only [pickL, List.mem_append, List.mem_map] at h
    rcases h with ⟨q, hq, rfl⟩ | h
    · simp [pickL_len d (f + 1) k q hq]
    · exact pickL_len d (f + 1) (k + 1) l h

def encN (x : Nat) : Value := .int .i64 (x : Int)
/-- a row of numbers of one's own -/
def SlI (w : World) (v : Value) (l : List Nat) : Prop := ∃ base g cap, v = .slice (some ⟨g, 0, none⟩) l.length cap ∧ w.ownsRow base 3 1 v l.length (l.map encN)
theorem SlI.new {w w' : World} {v : Value} {l : List Nat} (h : SlI w v l) (hn : New w w') : SlI w' v l := by
  obtain ⟨b, g, c, hv, ho⟩ := h
  exact ⟨b, g, c, hv, own_new ho hn⟩
theorem SlI.grown {w w' : World} {v : Value} {l : List Nat} {row : Option Nat} (h : SlI w v l) (hg : w.grownBy w' row) (hr : v.ownBlock ≠ row) : SlI w' v l := by
  obtain ⟨b, g, c, hv, ho⟩ := h
  exact ⟨b, g, c, hv, ho.kept hg (.inr hr)⟩
/-- own rows of two element types are two rows -/
theorem own_ne {w : World} {b b' : Nat} {e e' : TypeId} {s s' n n' : Nat} {v v' : Value} {xs xs' : List Value} (h : w.ownsRow b e s v n xs) (h' : w.ownsRow b' e' s' v' n' xs') (hne : e ≠ e') (hs : v.ownBlock ≠ none) : v.ownBlock ≠ v'.ownBlock := by
  rcases h.2 with ⟨rfl, _⟩ | ⟨g, cap, cur, rfl, _, hg, _⟩
  · exact absurd rfl hs
  · rcases h'.2 with ⟨rfl, _⟩ | ⟨g', cap', cur', rfl, _, hg', _⟩
    · simp [Value.ownBlock]
    · intro he
      have hgg : g = g' := by simpa [Value.ownBlock] using he
      subst hgg
      rw [hg] at hg'
      injection hg' with hg'
      injection hg' with _ hg' _
      exact hne hg'
theorem SlI.apart {w : World} {v v' : Value} {l : List Nat} {b s n : Nat} {e : TypeId} {xs : List Value} (h : SlI w v l) (h' : w.ownsRow b e s v' n xs) (hne : 3 ≠ e) : v.ownBlock ≠ v'.ownBlock := by
  obtain ⟨b, g, c, rfl, ho⟩ := h
  exact own_ne ho h' hne (by simp [Value.ownBlock])
theorem SlI.lt {w : World} {v : Value} {l : List Nat} (h : SlI w v l) : v.ownBlock ≠ some w.heap.size := by
  obtain ⟨b, g, c, rfl, ho⟩ := h
  intro he
  exact absurd (ho.lt _ he).2 (Nat.lt_irrefl _)
/-- place by place -/
def All2 (R : Value → List Nat → Prop) (xs : List Value) (ys : List (List Nat)) : Prop := xs.length = ys.length ∧ ∀ (i : Nat) (x : Value) (y : List Nat), xs[i]? = some x → ys[i]? = some y → R x y
theorem All2.imp {R S : Value → List Nat → Prop} {xs : List Value} {ys : List (List Nat)} (h : All2 R xs ys) (hi : ∀ x y, R x y → S x y) : All2 S xs ys := ⟨h.1, fun i x y hx hy => hi x y (h.2 i x y hx hy)⟩
theorem All2.append {R : Value → List Nat → Prop} {xs xs' : List Value} {ys ys' : List (List Nat)} (h : All2 R xs ys) (h' : All2 R xs' ys') : All2 R (xs ++ xs') (ys ++ ys') := by
  refine ⟨by rw [List.length_append, List.length_append, h.1, h'.1], fun i x y hx hy => ?_⟩
  by_cases hi : i < xs.length
  · rw [List.getElem?_append_left hi] at hx
    rw [List.getElem?_append_left (by rw [← h.1]; exact hi)] at hy
    exact h.2 i x y hx hy
  · rw [List.getElem?_append_right (by omega)] at hx
    rw [List.getElem?_append_right (by rw [← h.1]; omega), ← h.1] at hy
    exact h'.2 _ x y hx hy
theorem All2.nil {R : Value → List Nat → Prop} : All2 R [] [] := ⟨rfl, fun i x y hx => by simp at hx⟩
theorem All2.one {R : Value → List Nat → Prop} {x : Value} {y : List Nat} (h : R x y) : All2 R [x] [y] := ⟨rfl, fun i a b ha hb => by
  match i with
  | 0 => simp at ha hb; subst ha hb; exact h
  | i + 1 => simp at ha⟩
theorem info30 : (Try.prog.info? 29).map (fun i => (i.zero, i.size, i.bytes)) = some (some (.slice none 0 0), 1, 24) := by kernel_rfl
theorem oneCell_ints (l : List Nat) : ∀ u ∈ l.map encN, u.oneCell' = true := by
  intro u hu
  obtain ⟨x, _, rfl⟩ := List.mem_map.1 hu
  rfl
/-- what picks answers -/
def PickP (d f k : Nat) (w : World) (e : Ending) (w' : World) : Prop :=
  ∃ v vals, e = .returned v ∧ w'.ownsRow w.heap.size 29 1 v (pickL d f k).length vals ∧ All2 (SlI w') vals (pickL d f k) ∧ New w w'
theorem casts (f : Nat) : ((f + 1 : Nat) : Int) = (f : Int) + 1 := by push_cast; rfl
theorem picks_zero (d f n : Nat) (w : World) : Calls Try.prog 42 #[.int .i64 f, .int .i64 n, .int .i64 0] w (PickP d f 0 w) := by
  have h1 : Hid ((pickL d f 0).length = 1) := by rw [pickL_zero]; rfl
  go_enter Try.func42, Try.ntmps42
  go_wp2
  go_ret
  refine ⟨_, [.slice (some ⟨w.heap.size, 0, none⟩) 0 0], rfl, ?_, ?_, ((New.refl w).alloc _).alloc _⟩
  · rw [h1.out]
    have := World.ownsRow_lit (e := 29) (size := 1) (base := w.heap.size) (w.alloc (.cells #[] 3)) #[.slice (some ⟨w.heap.size, 0, none⟩) 0 0] 1 (by simp) (by unfold maxLen; omega) rfl
    simpa using this
  · rw [pickL_zero]
    refine All2.one ⟨w.heap.size, w.heap.size, 0, rfl, ?_⟩
    exact (World.ownsRow_lit (e := 3) (size := 1) w #[] 0 (Nat.le_refl _) (by unfold maxLen; omega) rfl).alloc _
theorem picks_none (f k n : Nat) (w : World) (hn : n = f) : Calls Try.prog 42 #[.int .i64 f, .int .i64 n, .int .i64 ((k : Int) + 1)] w (PickP 0 f (k + 1) w) := by
  have hk0 : ((k : Int) + 1 == 0) = false := by simp; omega
  have hge : (n : Int) ≤ (f : Int) := by omega
  go_enter Try.func42, Try.ntmps42
  go_wp2
  go_ret
  exact ⟨_, [], rfl, World.ownsRow_nil _ _ _ _, All2.nil, New.refl w⟩
set_option maxHeartbeats 1000000 in
theorem picks_step (d f k n : Nat) (w : World) (hn : n = f + (d + 1)) (h12 : n ≤ 12) (hk : k + 1 ≤ 12)
    (q1 : ∀ w, Calls Try.prog 42 #[.int .i64 ((f : Int) + 1), .int .i64 n, .int .i64 k] w (PickP d (f + 1) k w))
    (q2 : ∀ w, Calls Try.prog 42 #[.int .i64 ((f : Int) + 1), .int .i64 n, .int .i64 ((k : Int) + 1)] w (PickP d (f + 1) (k + 1) w)) :
    Calls Try.prog 42 #[.int .i64 f, .int .i64 n, .int .i64 ((k : Int) + 1)] w (PickP (d + 1) f (k + 1) w) := by
  have hk0 : ((k : Int) + 1 == 0) = false := by simp; omega
  have hlt : (f : Int) < (n : Int) := by omega
  have ih1 := Lib.hid q1
  have ih2 := Lib.hid q2
  clear q1 q2
  obtain ⟨i0, hi0, hz0, hz1, hz2⟩ := info_parts infoInt
  obtain ⟨i1, hj0, hy0, hy1, hy2⟩ := info_parts info30
  obtain ⟨L1, hL1⟩ : ∃ L, Hid (L = pickL d (f + 1) k) := ⟨_, (rfl : _ = _)⟩
  obtain ⟨L2, hL2⟩ : ∃ L, Hid (L = pickL d (f + 1) (k + 1)) := ⟨_, (rfl : _ = _)⟩
  have hpow : 2 ^ d ≤ 2 ^ 12 := Nat.pow_le_pow_right (by omega) (by omega)
  have hs1 : L1.length ≤ 4096 := by rw [hL1.out]; exact Nat.le_trans (pickL_size _ _ _) hpow
  have hs2 : L2.length ≤ 4096 := by rw [hL2.out]; exact Nat.le_trans (pickL_size _ _ _) hpow
  have hll : Hid (∀ l ∈ L1, l.length = k) := by rw [hL1.out]; exact pickL_len d (f + 1) k
  have hall : Hid (pickL (d + 1) f (k + 1) = L1.map (fun l => f :: l) ++ L2) := by rw [hL1.out, hL2.out]; exact pickL_succ d f k
  clear hpow hn
  go_enter Try.func42, Try.ntmps42
  go_wp2_with fail
  refine (ih1.out _).mono ?_
  rintro e w1 ⟨v1, vals1, rfl, ho1, ha1, hn1⟩
  rw [← hL1.out] at ho1 ha1
  obtain ⟨A1, c1, rfl, hc1, hm1, hA1, hcell1⟩ := own_open ho1
  have hA1' := Lib.hid hA1
  have hcell1' := Lib.hid hcell1
  have ha1' := Lib.hid ha1
  have hvl : vals1.length = L1.length := ha1.1
  clear ho1 ha1 hA1 hcell1
  go_wp2
  go_loopw [24, 7] (fun c o wr => ∃ (i : Nat) (vals : List Value), c = .int .i64 i ∧ i ≤ L1.length ∧ wr.ownsRow w1.heap.size 29 1 o i vals ∧ Hid (All2 (SlI wr) vals ((L1.take i).map (fun l => f :: l))) ∧ New w1 wr) (fun c _ _ => L1.length - (intOf c).toNat)
  case atStart => exact ⟨0, [], rfl, by omega, World.ownsRow_nil _ _ _ _, by simp; exact Lib.hid All2.nil, New.refl _⟩
  case round =>
    obtain ⟨i, vals, rfl, hi, hown, hal, hnw⟩ := hrel
    by_cases hilt : i < L1.length
    · obtain ⟨g1, rfl, _, hg1⟩ := hA1'.out (by omega)
      have hpv : vals1[i]? = some (vals1[i]'(by omega)) := List.getElem?_eq_getElem (by omega)
      have hl1 : L1[i]? = some (L1[i]'hilt) := List.getElem?_eq_getElem hilt
      obtain ⟨bp, gp, cp, hpe, hpo⟩ := ha1'.out.2 i _ _ hpv hl1
      have hlk := hll.out _ (List.getElem_mem hilt)
      obtain ⟨l, hl⟩ : ∃ l, Hid (l = L1[i]'hilt) := ⟨_, (rfl : _ = _)⟩
      rw [← hl.out] at hpe hpo hlk hl1
      have c0 := (hnw.cell (p := ⟨g1, i, none⟩) hg1).trans (hcell1'.out g1 rfl i _ hpv)
      rw [hpe] at c0
      rw [hpe] at hpo
      have hp2 := Lib.hid (own_new hpo hnw)
      have htk : Hid (L1.take (i + 1) = L1.take i ++ [l]) := by rw [hl.out]; exact List.take_succ_eq_append_getElem hilt
      clear hpe hpo hpv hl1
      have j0 : (0 : Int) ≤ (i : Int) := by omega
      have j1 : (i : Int) < (L1.length : Int) := by omega
      rw [hlk] at c0
      have hp3 : Hid (wr.ownsRow bp 3 1 (.slice (some ⟨gp, 0, none⟩) k cp) k (l.map encN)) := by have := hp2.out; rw [hlk] at this; exact this
      have hownr := World.ownsRow_lit (e := 3) (size := 1) wr #[.int .i64 f] 1 (Nat.le_refl _) (by unfold maxLen; omega) rfl
      have hlm : (l.map encN).length = k := by simp [hlk]
      have hob : u7.ownBlock ≠ some wr.heap.size := fun he => absurd (hown.lt _ he).2 (Nat.lt_irrefl _)
      have hwl : w1.heap.size ≤ wr.heap.size := hnw.size
      go_wp2_with (first
        | (at_builtin
           refine wpList_append_own _ rfl _ _ 29 rfl wr.heap.size 3 i0 _ 1 8 Try.underlying29 hi0 hz0 hz1 hz2 rfl (by decide) _ 1 _ rfl hownr ⟨gp, 0, none⟩ k cp (l.map encN) rfl (by simp [hlm]) (fun j u hu => (hp3.out.alloc _).cells rfl j u hu) (oneCell_ints l) (by unfold maxLen; omega) (by omega) (by simp) ?_
           intro v3 w3 hown3 hgrow hnil
           obtain ⟨g3, c3, rfl, hg3a, hg3b⟩ := hown3.form (by omega))
        | (at_builtin
           refine wpList_append_own _ rfl _ _ 53 rfl w1.heap.size 29 i1 _ 1 24 Try.underlying53 hj0 hy0 hy1 hy2 rfl (by decide) _ i vals rfl (((hown.alloc _).kept hgrow (.inr hob)).alloc _) ⟨w3.heap.size, 0, none⟩ 1 1 [.slice (some ⟨g3, 0, none⟩) (1 + k) c3] rfl rfl (World.news_of_block (cs := #[.slice _ _ _]) (t := 29) (fr := (0, 0)) (heap_alloc_new w3 _)) (by simp [Value.oneCell']) (by unfold maxLen; omega) (by omega) (by simp; omega) ?_
           intro v4 w4 hown4 hgrow4 hnil4))
      have hgA : (wr.alloc (.cells #[.int .i64 f] 3)).grownBy w3 (some wr.heap.size) := hgrow
      have hgB : (w3.alloc (.cells #[.slice (some ⟨g3, 0, none⟩) (1 + k) c3] 29)).grownBy w4 u7.ownBlock := hgrow4
      clear hgrow hgrow4 hnil hnil4
      have hN3 : New w1 w3 := hnw.append' hgA (fun g hg => by injection hg with hg; omega)
      have hN4 : New w1 w4 := hN3.append' hgB (fun g hg => (hown.lt _ hg).1)
      have hu7 := ((hown.alloc (.cells #[.int .i64 f] 3)).kept hgA (.inr hob)).alloc (.cells #[.slice (some ⟨g3, 0, none⟩) (1 + k) c3] 29)
      have hlen : (f :: l).length = 1 + k := by simp [hlk]; omega
      have hnew3 : SlI w3 (.slice (some ⟨g3, 0, none⟩) (1 + k) c3) (f :: l) := ⟨wr.heap.size, g3, c3, by rw [hlen], by rw [hlen]; exact hown3⟩
      have hnew4 : SlI w4 (.slice (some ⟨g3, 0, none⟩) (1 + k) c3) (f :: l) := by
        have h1 := hnew3.new ((New.refl w3).alloc (.cells #[.slice (some ⟨g3, 0, none⟩) (1 + k) c3] 29))
        exact h1.grown hgB (h1.apart hu7 (by decide))
      have hold : All2 (SlI w4) vals ((L1.take i).map (fun l => f :: l)) := hal.out.imp fun v l h => by
        have h1 := (h.new ((New.refl wr).alloc (.cells #[.int .i64 f] 3))).grown hgA h.lt
        have h2 := h1.new ((New.refl w3).alloc (.cells #[.slice (some ⟨g3, 0, none⟩) (1 + k) c3] 29))
        exact h2.grown hgB (h2.apart hu7 (by decide))
      have hall4 : Hid (All2 (SlI w4) (vals ++ [.slice (some ⟨g3, 0, none⟩) (1 + k) c3]) ((L1.take (i + 1)).map (fun l => f :: l))) := by
        rw [htk.out, List.map_append]
        exact hold.append (All2.one hnew4)
      have hown5 := Lib.hid hown4
      clear hown4 hold hnew4 hnew3 hu7 hgA hgB hown3 hal hp2 hp3 hownr hlen hlm
      go_roundw
      case rel => exact ⟨i + 1, _, by go_num, by omega, hown5.out, hall4, hN4⟩
      case measure => simp [intOf]; omega
    · have hin : i = L1.length := by omega
      subst hin
      rw [List.take_length] at hal
      have hN0 := hn1.next hnw
      have hw1 := hn1.size
      go_wp2_with fail
      refine (ih2.out _).mono ?_
      rintro e w5 ⟨v5, vals5, rfl, ho5, ha5, hn5⟩
      rw [← hL2.out] at ho5 ha5
      have hN5 := hN0.next hn5
      have hown5 := own_new hown hn5
      have hal5 := hal.out.imp fun v l h => h.new hn5
      have hone : ∀ u ∈ vals5, u.oneCell' = true := fun u hu => by
        obtain ⟨j, hj, rfl⟩ := List.getElem_of_mem hu
        obtain ⟨b, g, c, he, _⟩ := ha5.2 j _ _ (List.getElem?_eq_getElem hj) (List.getElem?_eq_getElem (by rw [← ha5.1]; exact hj))
        rw [he]; rfl
      have hv5 : vals5.length = L2.length := ha5.1
      have ho5' := Lib.hid ho5
      have hal5' := Lib.hid hal5
      have ha5' := Lib.hid ha5
      have hone' := Lib.hid hone
      have hw5 := hnw.size
      have hw6 := hn5.size
      clear hal5 ha5 hone
      rcases Go.Joins.ownsRow_forms ho5 with ⟨rfl, hz⟩ | ⟨g5, c5, rfl⟩
      · clear ho5
        have hL2n : L2 = [] := List.eq_nil_of_length_eq_zero hz
        have hv5n : vals5 = [] := List.eq_nil_of_length_eq_zero (by omega)
        have hL2h := Lib.hid hL2n
        clear hL2n
        go_wp2_with (at_builtin; refine wpList_append_own_none rfl _ _ _ rfl w1.heap.size 29 i1 1 Try.underlying53 hj0 _ L1.length vals rfl hown5 rfl ?_)
        go_ret
        refine ⟨_, vals, rfl, ?_, ?_, hN5⟩
        · rw [hall.out, hL2h.out, List.append_nil, List.length_map]; exact hown5.mono hw1
        · rw [hall.out, hL2h.out, List.append_nil]; exact hal5'.out
      · clear ho5
        go_wp2_with (at_builtin; refine wpList_append_own _ rfl _ _ 53 rfl w1.heap.size 29 i1 _ 1 24 Try.underlying53 hj0 hy0 hy1 hy2 rfl (by decide) _ L1.length vals rfl hown5 ⟨g5, 0, none⟩ L2.length c5 vals5 rfl (by simp [hv5]) (fun j u hu => ho5'.out.cells rfl j u hu) hone'.out (by unfold maxLen; omega) (by omega) (by omega) ?_; intro v6 w6 hown6 hgrow6 hnil6)
        have hgC : w5.grownBy w6 u7.ownBlock := hgrow6
        have hN6 : New w w6 := Below.grown hN5 hgC hN5.size (fun g hg => Nat.le_trans hw1 (hown.lt _ hg).1)
        have hown7 := Lib.hid hown6
        have hA6 : Hid (All2 (SlI w6) (vals ++ vals5) (L1.map (fun l => f :: l) ++ L2)) :=
          (hal5'.out.imp fun v l h => h.grown hgC (h.apart hown5 (by decide))).append (ha5'.out.imp fun v l h => h.grown hgC (h.apart hown5 (by decide)))
        clear hown6 hgrow6 hnil6 hgC
        go_wp2
        go_ret
        refine ⟨_, vals ++ vals5, rfl, ?_, ?_, hN6⟩
        · rw [hall.out, List.length_append, List.length_map]; exact hown7.out.mono hw1
        · rw [hall.out]; exact hA6.out
theorem picks_ok : ∀ (d f k n : Nat), n = f + d → n ≤ 12 → k ≤ 12 → ∀ w : World, Calls Try.prog 42 #[.int .i64 f, .int .i64 n, .int .i64 k] w (PickP d f k w) := by
  intro d
  induction d with
  | zero =>
    intro f k n hn h12 hk w
    cases k with
    | zero => exact picks_zero 0 f n w
    | succ k => have := picks_none f k n w hn; rwa [← casts] at this
  | succ d ih =>
    intro f k n hn h12 hk w
    cases k with
    | zero => exact picks_zero (d + 1) f n w
    | succ k =>
      have q1 := ih (f + 1) k n (by omega) h12 (by omega)
      have q2 := ih (f + 1) (k + 1) n (by omega) h12 hk
      rw [casts] at q1 q2
      rw [casts] at q2
      have := picks_step d f k n w hn h12 hk q1 q2
      rwa [← casts k] at this
end Go.Proofs.Ytjmjnodaohbpfaa.comb
