/-
  Contracts: runs of units that are so, and the reference's stretches.
-/
import Derived.Test.YthjjchlibbheaaaSpaceRef
namespace Go.Proofs.Ythjjchlibbheaaa.space
open Go.ChangeShapes Go.WideShapes Go.ChangeAt Go.RowKit Go.Proofs.Ythjjchlibbheaaa.kit Go.Deep
set_option linter.unusedVariables false

/-- runs so far, and where one is open -/
def stN (b : Nat → Bool) : Nat → List (Nat × Nat) × Option Nat
  | 0 => ([], none)
  | k + 1 => match stN b k with
    | (o, none) => if b k then (o, some k) else (o, none)
    | (o, some f) => if b k then (o, some f) else (o ++ [(f, k)], none)
theorem stN_len (b : Nat → Bool) : ∀ k, (stN b k).1.length ≤ k
  | 0 => Nat.le_refl 0
  | k + 1 => by
    have ih := stN_len b k
    unfold stN
    split
    · rename_i o h; rw [h] at ih; split <;> simp at ih ⊢ <;> omega
    · rename_i o f h; rw [h] at ih; split <;> simp at ih ⊢ <;> omega
theorem stN_to (b : Nat → Bool) : ∀ k, ∀ p ∈ (stN b k).1, p.2 < k
  | 0, p, h => by simp [stN] at h
  | k + 1, p, h => by
    have ih := stN_to b k
    unfold stN at h
    split at h
    · rename_i o hs; rw [hs] at ih
      split at h <;> exact Nat.lt_succ_of_lt (ih p h)
    · rename_i o f hs; rw [hs] at ih
      split at h
      · exact Nat.lt_succ_of_lt (ih p h)
      · simp at h
        rcases h with h | rfl
        · exact Nat.lt_succ_of_lt (ih p h)
        · exact Nat.lt_succ_self _
theorem stN_fr (b : Nat → Bool) : ∀ k f, (stN b k).2 = some f → f < k
  | 0, f, h => by simp [stN] at h
  | k + 1, f, h => by
    have ih := stN_fr b k
    unfold stN at h
    split at h
    · split at h
      · simp at h; omega
      · simp at h
    · rename_i o f' hs; rw [hs] at ih
      split at h
      · simp at h; subst h; exact Nat.lt_succ_of_lt (ih _ rfl)
      · simp at h
theorem stN_congr (b c : Nat → Bool) : ∀ k, (∀ i, i < k → b i = c i) → stN b k = stN c k
  | 0, _ => rfl
  | k + 1, h => by
    unfold stN
    rw [stN_congr b c k fun i hi => h i (by omega), h k (by omega)]
def tlN (k : Nat) : Option Nat → List (Nat × Nat)
  | none => []
  | some f => [(f, k)]
def listN (b : Nat → Bool) (k : Nat) : List (Nat × Nat) := (stN b k).1 ++ tlN k (stN b k).2
theorem listN_len (b : Nat → Bool) (k : Nat) : (listN b k).length ≤ k + 1 := by
  have := stN_len b k
  unfold listN tlN
  rw [List.length_append]
  split <;> simp <;> omega
theorem step_nf {b : Nat → Bool} {k : Nat} {o : List (Nat × Nat)} (h : stN b k = (o, none)) (hb : b k = false) : stN b (k + 1) = (o, none) := by
  unfold stN; rw [h]; simp [hb]
theorem step_nt {b : Nat → Bool} {k : Nat} {o : List (Nat × Nat)} (h : stN b k = (o, none)) (hb : b k = true) : stN b (k + 1) = (o, some k) := by
  unfold stN; rw [h]; simp [hb]
theorem step_sf {b : Nat → Bool} {k f : Nat} {o : List (Nat × Nat)} (h : stN b k = (o, some f)) (hb : b k = false) : stN b (k + 1) = (o ++ [(f, k)], none) := by
  unfold stN; rw [h]; simp [hb]
theorem step_st {b : Nat → Bool} {k f : Nat} {o : List (Nat × Nat)} (h : stN b k = (o, some f)) (hb : b k = true) : stN b (k + 1) = (o, some f) := by
  unfold stN; rw [h]; simp [hb]
theorem list_end (b : Nat → Bool) (n : Nat) (c : Nat → Bool) (h : ∀ i, i < n → c i = b i) (hn : c n = false) : (stN c (n + 1)).1 = listN b n := by
  unfold listN
  rw [← stN_congr c b n h]
  cases hs : stN c n with
  | mk o g =>
    cases g with
    | none => rw [step_nf hs hn]; simp [tlN]
    | some f => rw [step_sf hs hn]; rfl
def frV : Option Nat → Int
  | none => -1
  | some f => (f : Int)
def rgV (p : Nat × Nat) : List Value := [.int .i64 (p.1 : Nat), .int .i64 (p.2 : Nat)]
def rgL (l : List (Nat × Nat)) : List Value := l.flatMap rgV
theorem rgL_app (l m : List (Nat × Nat)) : rgL (l ++ m) = rgL l ++ rgL m := by simp [rgL]
theorem rgL_one (p : Nat × Nat) : rgL [p] = rgV p := by simp [rgL]
theorem rgL_len : ∀ l : List (Nat × Nat), (rgL l).length = 2 * l.length
  | [] => rfl
  | p :: l => by
    have := rgL_len l
    show (rgV p ++ rgL l).length = _
    rw [List.length_append, this]; simp [rgV]; omega
theorem infoRange : (Try.prog.info? 75).map (fun i => (i.zero, i.size, i.bytes)) = some (some (.agg #[.int .i64 0, .int .i64 0]), 2, 16) := by kernel_rfl
theorem runs_ok (G U n : Nat) (left : Int) (log : Value) (u : Nat → Nat) (k' : Nat) (eg : ∀ args w, (callFunc k' args).run Try.prog w = .ok (.enter k' args) w) (p : Nat → Bool) (w : World)
    (h : SpaceAt w G U n left log u) (hn : n ≤ 4096)
    (hF : ∀ x w1, New w w1 → Calls Try.prog k' #[.int .u8 (x : Nat)] w1 fun e w' => e = .returned (.bool (p x)) ∧ New w1 w') (b : Nat → Bool) (hb : ∀ i, i < n → b i = p (u i)) (hbn : b n = false) :
    Calls Try.prog 32 #[.pointer (some ⟨G, 0, none⟩), .func (.func k') #[] #[]] w fun e w' => ∃ v, e = .returned v ∧ w'.ownsRow w.heap.size 75 2 v (stN b (n + 1)).1.length (rgL (stN b (n + 1)).1) ∧ New w w' := by
  obtain ⟨hG, hU, hUl⟩ := h
  have hG0 := Lib.hid hG
  have hU0 := Lib.hid hU
  have hF0 := Lib.hid hF
  have hb0 := Lib.hid hb
  have hbn0 := Lib.hid hbn
  clear hG hU hF hb hbn
  obtain ⟨i0, hi0, hz0, hz1, hz2⟩ := info_parts infoRange
  go_enter Try.func32, Try.ntmps32
  go_wp2
  go_loopw [7, 6, 5] (fun c fr o wr => ∃ i : Nat, c = .int .i64 i ∧ i ≤ n + 1 ∧ fr = .int .i64 (frV (stN b i).2) ∧ wr.ownsRow w.heap.size 75 2 o (stN b i).1.length (rgL (stN b i).1) ∧ New w wr) (fun c _ _ _ => n + 2 - (intOf c).toNat)
  case atStart => exact ⟨0, rfl, by omega, rfl, World.ownsRow_nil _ _ _ _, New.refl w⟩
  case round =>
    obtain ⟨i, rfl, hi, rfl, hown, hnw⟩ := hrel
    have c0 := (hG0.out.new hnw).cell 0
    simp at c0
    obtain ⟨⟨o, g⟩, hst⟩ : ∃ s, Hid (stN b i = s) := ⟨_, (rfl : _ = _)⟩
    have hol : o.length ≤ i := by have := stN_len b i; rw [hst.out] at this; exact this
    rw [hst.out] at hown ⊢
    dsimp only at hown
    by_cases hlt : i ≤ n
    · obtain ⟨bi, hbi⟩ : ∃ bi, Hid (bi = b i) := ⟨_, (rfl : _ = _)⟩
      go_upto_region 6 with fail
      go_cut [8] (fun v wx => v = .bool bi ∧ New wr wx)
      case first =>
        by_cases hin : (i : Int) < (n : Int)
        · obtain ⟨y, hy⟩ : ∃ y, Hid (y = u i) := ⟨_, (rfl : _ = _)⟩
          have d0 : wr.cell? ⟨U, i, none⟩ = some (.int .u8 (y : Int)) := by
            rw [hy.out]; exact (hnw.cell (p := ⟨U, i, none⟩) hUl).trans (hU0.out.cell (by omega))
          have hpi : Hid (p y = bi) := by rw [hbi.out, hy.out]; exact (hb0.out i (by omega)).symm
          go_wp2_with fail
          refine (hF0.out y _ hnw).mono ?_
          rw [hpi.out]
          rintro e w2 ⟨rfl, hn2⟩
          go_wp2
          go_meet
          exact ⟨rfl, hn2⟩
        · have hie : i = n := by omega
          have hbf : bi = false := by rw [hbi.out, hie]; exact hbn0.out
          clear hlt hin
          subst hie
          go_wp2
          go_meet
          exact ⟨by rw [hbf], New.refl _⟩
      case rest =>
        obtain ⟨rfl, hnc⟩ := hcut
        obtain ⟨W1, hW1⟩ : ∃ W1, W1 = wc := ⟨_, rfl⟩
        subst hW1
        have hN1 := hnw.next hnc
        have hown1 := own_new hown hnc
        have hfl : Hid (∀ f, g = some f → f < i) := fun f h => stN_fr b i f (by rw [hst.out]; exact h)
        cases g with
        | none =>
          cases bi with
          | false =>
            have hs := Lib.hid (step_nf hst.out hbi.out.symm)
            have hown2 := Lib.hid hown1
            clear hown1 hown
            unfold frV
            go_wp2
            go_roundw
            case rel => exact ⟨i + 1, by go_num, by omega, by rw [hs.out]; rfl, by rw [hs.out]; exact hown2.out, hN1⟩
            case measure => simp [intOf]; omega
          | true =>
            have hs := Lib.hid (step_nt hst.out hbi.out.symm)
            have hown2 := Lib.hid hown1
            clear hown1 hown
            unfold frV
            go_wp2
            go_roundw
            case rel => exact ⟨i + 1, by go_num, by omega, by rw [hs.out]; rfl, by rw [hs.out]; exact hown2.out, hN1⟩
            case measure => simp [intOf]; omega
        | some f =>
          have hfi := hfl.out f rfl
          have hf0 : ¬ (f : Int) < 0 := by omega
          cases bi with
          | true =>
            have hs := Lib.hid (step_st hst.out hbi.out.symm)
            have hown2 := Lib.hid hown1
            clear hown1 hown
            unfold frV
            go_wp2
            go_roundw
            case rel => exact ⟨i + 1, by go_num, by omega, by rw [hs.out]; rfl, by rw [hs.out]; exact hown2.out, hN1⟩
            case measure => simp [intOf]; omega
          | false =>
            have hs := Lib.hid (step_sf hst.out hbi.out.symm)
            have hne : u5.ownBlock ≠ some W1.heap.size := fun he => absurd (hown1.lt _ he).2 (Nat.lt_irrefl _)
            unfold frV
            go_wp2_with (at_builtin; refine wpList_append_own _ rfl _ _ 23 rfl w.heap.size 75 i0 _ 2 16 Try.underlying23 hi0 hz0 hz1 hz2 rfl (by decide) _ o.length (rgL o) rfl (hown1.alloc _) ⟨W1.heap.size, 0, none⟩ 1 1 [.int .i64 f, .int .i64 i] rfl rfl (World.news_of_block (cs := #[.int .i64 _, .int .i64 _]) (t := 75) (fr := (0, 0)) (heap_alloc_new W1 _)) (by simp [Value.oneCell']) (by unfold maxLen; omega) (by omega) (by have := hN1.size; simp; omega) ?_; intro v3 w3 hown3 hgrow hnil)
            have hN3 : New w w3 := hN1.append' hgrow fun g hg => (hown1.lt _ hg).1
            have hown4 : Hid (w3.ownsRow w.heap.size 75 2 v3 (o ++ [(f, i)]).length (rgL (o ++ [(f, i)]))) := by
              rw [rgL_app, rgL_one, List.length_append]; exact hown3
            clear hown3 hgrow hnil hown1 hown
            go_wp2
            go_roundw
            case rel => exact ⟨i + 1, by go_num, by omega, by rw [hs.out]; rfl, by rw [hs.out]; exact hown4.out, hN3⟩
            case measure => simp [intOf]; omega
    · have hgt : ¬ (i : Int) ≤ (n : Int) := by omega
      have hs2 : Hid ((stN b (n + 1)).1 = o) := by rw [show n + 1 = i by omega, hst.out]; exact (rfl : _ = _)
      have hown2 := Lib.hid hown
      clear hown
      go_wp2
      go_ret
      exact ⟨_, rfl, by rw [hs2.out]; exact hown2.out, hnw⟩
theorem last_cell {w : World} {b g cap m : Nat} {l : List (Nat × Nat)} {p : Nat × Nat} (hm : l.length = m) (h : w.ownsRow b 75 2 (.slice (some ⟨g, 0, none⟩) (m + 1) cap) (m + 1) (rgL (l ++ [p]))) :
    w.cell? ⟨g, m * 2 + 1, none⟩ = some (.int .i64 (p.2 : Nat)) := by
  rw [h.cellAt (m * 2 + 1) (by omega), rgL_app, List.getElem?_append_right (by rw [rgL_len]; omega), rgL_len, hm, show m * 2 + 1 - 2 * m = 1 by omega, rgL_one]
  rfl
theorem last_set {m : Nat} {l : List (Nat × Nat)} {f i j : Nat} (hm : l.length = m) : (rgL (l ++ [(f, i)])).set (m * 2 + 1) (.int .i64 (j : Nat)) = rgL (l ++ [(f, j)]) := by
  rw [rgL_app, rgL_app, List.set_append_right _ _ (by rw [rgL_len]; omega), rgL_len, hm, show m * 2 + 1 - 2 * m = 1 by omega, rgL_one, rgL_one]
  rfl
theorem stretches_ok (S n x : Nat) (u : Nat → Nat) (w : World) (hU : w.rowIs S 3 n (inF u)) (hn : n ≤ 4096) :
    Calls Try.prog 35 #[.slice (some ⟨S, 0, none⟩) n n, .int .i64 x] w fun e w' => ∃ v, e = .returned v ∧ w'.ownsRow w.heap.size 75 2 v (listN (fun i => decide (u i = x)) n).length (rgL (listN (fun i => decide (u i = x)) n)) ∧ New w w' := by
  obtain ⟨b, hb⟩ : ∃ b, Hid (b = fun i => decide (u i = x)) := ⟨_, (rfl : _ = _)⟩
  rw [← hb.out]
  have hU0 := Lib.hid hU
  clear hU
  obtain ⟨i0, hi0, hz0, hz1, hz2⟩ := info_parts infoRange
  go_enter Try.func35, Try.ntmps35
  go_wp2
  go_loopw [10, 5] (fun c o wr => ∃ i : Nat, c = .int .i64 i ∧ i ≤ n ∧ wr.ownsRow w.heap.size 75 2 o (listN b i).length (rgL (listN b i)) ∧ New w wr) (fun c _ _ => n - (intOf c).toNat)
  case atStart => exact ⟨0, rfl, by omega, World.ownsRow_nil _ _ _ _, New.refl w⟩
  case round =>
    obtain ⟨i, rfl, hi, hown, hnw⟩ := hrel
    by_cases hlt : i < n
    · obtain ⟨⟨o, g⟩, hst⟩ : ∃ s, Hid (stN b i = s) := ⟨_, (rfl : _ = _)⟩
      have hto : Hid (∀ p ∈ o, p.2 < i) := by have := stN_to b i; rw [hst.out] at this; exact this
      have hol : o.length ≤ i := by have := stN_len b i; rw [hst.out] at this; exact this
      have hln : Hid (listN b i = o ++ tlN i g) := by unfold listN; rw [hst.out]; exact (rfl : _ = _)
      obtain ⟨y, hy⟩ : ∃ y, Hid (y = u i) := ⟨_, (rfl : _ = _)⟩
      have d0 : wr.cell? ⟨S, i, none⟩ = some (.int .i64 (y : Int)) := by
        rw [hy.out]; exact (hnw.cell (p := ⟨S, i, none⟩) hU0.out.lt).trans (hU0.out.cell (by omega))
      rw [hln.out] at hown
      by_cases hyx : (y : Int) = (x : Int)
      · have hbi : b i = true := by rw [hb.out]; exact decide_eq_true (by rw [← hy.out]; omega)
        cases g with
        | none =>
          have hs : Hid (listN b (i + 1) = o ++ [(i, i + 1)]) := by unfold listN; rw [step_nt hst.out hbi]; exact (rfl : _ = _)
          clear hbi
          simp only [tlN, List.append_nil] at hown
          have hlast : o = [] ∨ ∃ l p, o = l ++ [p] := by
            rcases List.eq_nil_or_concat o with h | ⟨l, p, h⟩
            · exact .inl h
            · exact .inr ⟨l, p, by simpa using h⟩
          rcases hlast with rfl | ⟨l, p, rfl⟩
          · obtain ⟨A, c, rfl, hc1, hc2, hdrop⟩ := own_open hown
            clear hdrop
            simp only [List.length_nil] at hown hc1
            go_wp2_with (at_builtin; refine wpList_append_own _ rfl _ _ 23 rfl w.heap.size 75 i0 _ 2 16 Try.underlying23 hi0 hz0 hz1 hz2 rfl (by decide) _ 0 (rgL []) rfl (hown.alloc _) ⟨wr.heap.size, 0, none⟩ 1 1 [.int .i64 i, .int .i64 ((i : Int) + 1)] rfl rfl (World.news_of_block (cs := #[.int .i64 _, .int .i64 _]) (t := 75) (fr := (0, 0)) (heap_alloc_new wr _)) (by simp [Value.oneCell']) (by unfold maxLen; omega) (by omega) (by have := hnw.size; simp; omega) ?_; intro v3 w3 hown3 hgrow hnil)
            have hN3 : New w w3 := hnw.append' hgrow fun g hg => (hown.lt _ hg).1
            have hown4 : Hid (w3.ownsRow w.heap.size 75 2 v3 (listN b (i + 1)).length (rgL (listN b (i + 1)))) := by rw [hs.out]; exact hown3
            clear hown3 hgrow hnil hown
            go_wp2
            go_roundw
            case rel => exact ⟨i + 1, by go_num, by omega, hown4.out, hN3⟩
            case measure => simp [intOf]; omega
          · obtain ⟨m, hm⟩ : ∃ m, Hid (l.length = m) := ⟨_, (rfl : _ = _)⟩
            have hml : (l ++ [p]).length = m + 1 := by rw [List.length_append, hm.out]; rfl
            rw [hml] at hown hol
            obtain ⟨g1, cap, rfl, hg1, hg2⟩ := hown.form (by omega)
            have hpi : p.2 < i := hto.out p (by simp)
            obtain ⟨z, hz⟩ : ∃ z, Hid (z = p.2) := ⟨_, (rfl : _ = _)⟩
            have d1 := last_cell hm.out hown
            rw [← hz.out] at d1 hpi
            have hzi : ((z : Int) == (i : Int)) = false := by simp; omega
            have j0 : (0 : Int) ≤ (m : Int) := by omega
            have hml1 := Lib.hid hml
            clear hml
            go_wp2_with (at_builtin; refine wpList_append_own _ rfl _ _ 23 rfl w.heap.size 75 i0 _ 2 16 Try.underlying23 hi0 hz0 hz1 hz2 rfl (by decide) _ (m + 1) (rgL (l ++ [p])) rfl (hown.alloc _) ⟨wr.heap.size, 0, none⟩ 1 1 [.int .i64 i, .int .i64 ((i : Int) + 1)] rfl rfl (World.news_of_block (cs := #[.int .i64 _, .int .i64 _]) (t := 75) (fr := (0, 0)) (heap_alloc_new wr _)) (by simp [Value.oneCell']) (by unfold maxLen; omega) (by omega) (by have := hnw.size; simp; omega) ?_; intro v3 w3 hown3 hgrow hnil)
            have hN3 : New w w3 := hnw.append' hgrow fun g hg => (hown.lt _ hg).1
            have hown4 : Hid (w3.ownsRow w.heap.size 75 2 v3 (listN b (i + 1)).length (rgL (listN b (i + 1)))) := by
              rw [hs.out, List.length_append, hml1.out, rgL_app (l ++ [p])]; exact hown3
            clear hown3 hgrow hnil hown
            go_wp2
            go_roundw
            case rel => exact ⟨i + 1, by go_num, by omega, hown4.out, hN3⟩
            case measure => simp [intOf]; omega
        | some f =>
          have hs : Hid (listN b (i + 1) = o ++ [(f, i + 1)]) := by unfold listN; rw [step_st hst.out hbi]; exact (rfl : _ = _)
          clear hbi
          simp only [tlN] at hown
          obtain ⟨m, hm⟩ : ∃ m, Hid (o.length = m) := ⟨_, (rfl : _ = _)⟩
          have hml : Hid ((o ++ [(f, i)]).length = m + 1) := by rw [List.length_append, hm.out]; exact (rfl : _ = _)
          rw [hml.out] at hown
          rw [hm.out] at hol
          obtain ⟨g1, cap, rfl, hg1, hg2⟩ := hown.form (by omega)
          have d1 := last_cell hm.out hown
          have f1 := hown.frozenAt (m * 2 + 1)
          have hst1 := (hown.stored (m * 2 + 1) (.int .i64 ((i + 1 : Nat) : Int))).1
          rw [last_set hm.out] at hst1
          have hcst : Hid (((i + 1 : Nat) : Int) = (i : Int) + 1) := by push_cast; exact (rfl : _ = _)
          rw [hcst.out] at hst1
          have hown4 : Hid ((wr.setCell ⟨g1, m * 2 + 1, none⟩ (.int .i64 ((i : Int) + 1))).ownsRow w.heap.size 75 2 (.slice (some ⟨g1, 0, none⟩) (m + 1) cap) (listN b (i + 1)).length (rgL (listN b (i + 1)))) := by
            rw [hs.out, List.length_append, hm.out]; exact hst1
          have j0 : (0 : Int) ≤ (m : Int) := by omega
          clear hst1 hown
          go_wp2
          go_roundw
          case rel => exact ⟨i + 1, by go_num, by omega, hown4.out, hnw.set (p := ⟨g1, m * 2 + 1, none⟩) hg1 _⟩
          case measure => simp [intOf]; omega
      · have hne : ((y : Int) != (x : Int)) = true := by simp; omega
        have hbi : b i = false := by rw [hb.out]; exact decide_eq_false (by rw [← hy.out]; omega)
        have hs : Hid (listN b (i + 1) = o ++ tlN i g) := by
          unfold listN
          cases g with
          | none => rw [step_nf hst.out hbi]; exact (rfl : _ = _)
          | some f => rw [step_sf hst.out hbi]; show _ = _; simp [tlN]
        clear hbi
        have hown2 := Lib.hid hown
        clear hown
        go_wp2
        go_roundw
        case rel => exact ⟨i + 1, by go_num, by omega, by rw [hs.out]; exact hown2.out, hnw⟩
        case measure => simp [intOf]; omega
    · have hin : i = n := by omega
      subst hin
      have hown2 := Lib.hid hown
      clear hown
      go_wp2
      go_ret
      exact ⟨_, rfl, hown2.out, hnw⟩
end Go.Proofs.Ythjjchlibbheaaa.space
