/-
  Contract of the reference's ParEncode.
-/
import Derived.Test.YtjmjnodaohbpfaaParEncode
namespace Go.Proofs.Ytjmjnodaohbpfaa.par
open Go.ChangeShapes Go.WideShapes Go.ChangeAt Go.RowKit Go.Proofs.Ytjmjnodaohbpfaa.kit Go.Proofs.Ytjmjnodaohbpfaa.gf Go.Deep
set_option linter.unusedVariables false
attribute [local irreducible] mul expT pw fcN enN

/-- a list read in memory, behind writes to another block -/
theorem rdI_grown {k : IntKind} {w w' : World} {A : Option Addr} {n : Nat} {Z : Nat → Int} {O : Nat} (h : RdI k w A n Z) (hg : w.grownBy w' (some O)) (hne : 0 < n → ∀ b off, A = some ⟨b, off, none⟩ → b ≠ O) : RdI k w' A n Z :=
  ⟨h.1, fun h0 => by
    obtain ⟨b, off, hA, hb, hc⟩ := h.2 h0
    have hbo := hne h0 b off hA
    exact ⟨b, off, hA, Nat.lt_of_lt_of_le hb hg.size, fun i hi => (hg.cell_far ⟨b, off + i, none⟩ hb (by simp [hbo])).trans (hc i hi)⟩⟩
/-- bytes are no slices -/
theorem rdI_ne {w : World} {A : Option Addr} {n m : Nat} {Z : Nat → Int} {O : Nat} {t : TypeId} {f : Nat → Value} (h : RdI .u8 w A n Z) (ho : w.rowIs O t m f) (hf : ∀ i, i < m → ∀ z, f i ≠ .int .u8 z) : 0 < n → ∀ b off, A = some ⟨b, off, none⟩ → b ≠ O := by
  intro h0 b off hA he
  obtain ⟨b', off', hA', hb, hc⟩ := h.2 h0
  rw [hA] at hA'
  injection hA' with hA'
  injection hA' with h1 h2 _
  subst h1 h2 he
  have h1 := hc 0 h0
  obtain ⟨cs, h2, h3, h4⟩ := ho
  rw [cell_of_row w b (off + 0) cs t (0, 0) h2] at h1
  have hlt : off + 0 < m := by
    rcases Nat.lt_or_ge (off + 0) m with h | h
    · exact h
    · rw [Array.getElem?_eq_none (by omega)] at h1; cases h1
  rw [h4 _ hlt] at h1
  injection h1 with h1
  exact hf _ hlt _ h1
/-- what lies in the list of columns while one is made -/
def ouF (V : Nat → Value) (j : Nat) (v : Value) : Nat → Value := fun i => if i < j then V i else if i = j then v else .slice none 0 0
theorem ouF_at (V : Nat → Value) (j : Nat) (v : Value) : ouF V j v j = v := by simp [ouF]
theorem ouF_set (V : Nat → Value) (j : Nat) (v v' : Value) : (fun i => if i = j then v' else ouF V j v i) = ouF V j v' := by
  funext i
  unfold ouF
  by_cases h : i = j
  · simp [h]
  · simp [h]
theorem ouF_next (V : Nat → Value) (j : Nat) (v : Value) : ouF V j v = ouF (fun i => if i = j then v else V i) (j + 1) (.slice none 0 0) := by
  funext i
  unfold ouF
  by_cases h1 : i < j
  · rw [if_pos h1, if_pos (by omega)]; show V i = if i = j then v else V i; rw [if_neg (by omega)]
  · rw [if_neg h1]
    by_cases h2 : i = j
    · rw [if_pos h2, if_pos (by omega)]; show v = if i = j then v else V i; rw [if_pos h2]
    · rw [if_neg h2, if_neg (by omega)]
      split <;> rfl
theorem ouF_zero (V : Nat → Value) : ouF V 0 (.slice none 0 0) = fun _ => .slice none 0 0 := by
  funext i
  unfold ouF
  rw [if_neg (by omega)]
  split <;> rfl
theorem ouF_no (R : Nat → Option Addr) (l : Nat) (C : Nat → Nat) (j i : Nat) (z : Int) : ouF (fun i => .slice (R i) l (C i)) j (.slice none 0 0) i ≠ .int .u8 z := by
  unfold ouF
  split
  · intro h; cases h
  · split <;> (intro h; cases h)
def byL (F : Nat → Nat) (n : Nat) : List Value := (List.range n).map fun i => .int .u8 (F i : Nat)
theorem byL_succ (F : Nat → Nat) (n : Nat) : byL F (n + 1) = byL F n ++ [.int .u8 (F n : Nat)] := by unfold byL; rw [List.range_succ, List.map_append]; rfl
theorem own_rdI {w : World} {base : Nat} {v : Value} {n : Nat} {t : TypeId} {F : Nat → Nat} (h : w.ownsRow base t 1 v n (byL F n)) (hn : n ≤ maxLen) : ∃ A c, v = .slice A n c ∧ n ≤ c ∧ c ≤ maxLen ∧ RdI .u8 w A n (fun i => (F i : Nat)) ∧ ∀ q, A = some q → base ≤ q.block := by
  obtain ⟨A, c, rfl, h1, h2, h3, h4⟩ := own_open h
  have hlo : ∀ q, A = some q → base ≤ q.block := fun q e => by
    subst e
    rcases h.2 with ⟨h1, _⟩ | ⟨g', cap, cur, h1, _⟩
    · cases h1
    · cases h1
      exact (h.lt g' (by simp [Value.ownBlock])).1
  refine ⟨A, c, rfl, h1, h2, ⟨hn, fun h0 => ?_⟩, hlo⟩
  obtain ⟨g, rfl, _, hg⟩ := h3 h0
  exact ⟨g, 0, rfl, hg, fun i hi => by have := h4 g rfl i (.int .u8 (F i : Nat)) (by simp [byL, hi]); simpa using this⟩
/-- the reference's sum at one place -/
theorem ref_step (j : Nat) (M : Nat → Nat → Int) (i k : Nat) : enN j M (i + 1) k = enN j M i k ^^^ mul (fcN j i) (M i k).toNat := by
  with_unfolding_all rfl
theorem enN_zero (j : Nat) (M : Nat → Nat → Int) (k : Nat) : enN j M 0 k = 0 := by with_unfolding_all rfl
theorem fcN_ref (j i : Nat) : expT (j * i % 255) = fcN j i := by
  rw [Nat.mul_comm]
  with_unfolding_all rfl
set_option maxRecDepth 100000 in
set_option maxHeartbeats 1000000 in
theorem ParEncode_new (A : Option Addr) (n c : Nat) (p : Int) (R : Nat → Option Addr) (L C : Nat → Nat) (M : Nat → Nat → Int) (w : World) (hM : RdM .u8 w A n R L C M) (hb : ∀ i, i < n → ∀ k, k < L i → 0 ≤ M i k ∧ M i k ≤ 255) :
    Calls Try.prog 11 #[.slice A n c, .int .i64 p] w fun e w' => ∃ v, e = .returned (.tuple #[v, .int .i64 (peCode n L p)]) ∧
      (∃ B d R1 C1, v = .slice B (peLen n L p) d ∧ d = peLen n L p ∧ (∀ q, B = some q → w.heap.size ≤ q.block) ∧ (∀ i q, i < peLen n L p → R1 i = some q → w.heap.size ≤ q.block) ∧ RdM .u8 w' B (peLen n L p) R1 (fun _ => L 0) C1 (fun j k => (enN j M n k : Nat))) ∧ New w w' := by
  obtain ⟨cd, hcd⟩ : ∃ cd, Hid (cd = peCode n L p) := ⟨_, (rfl : _ = _)⟩
  obtain ⟨ln, hln⟩ : ∃ ln, Hid (ln = peLen n L p) := ⟨_, (rfl : _ = _)⟩
  rw [← hcd.out, ← hln.out]
  have hM0 := Lib.hid hM
  have hb0 := Lib.hid hb
  clear hM hb
  cases hm : mayC n L with
  | false =>
    have hc : cd = 4 := by rw [hcd.out]; unfold peCode; simp [hm]
    have hl : ln = 0 := by rw [hln.out]; unfold peLen; rw [← hcd.out]; simp [hc]
    subst hc hl
    go_enter Try.func11, Try.ntmps11
    go_wp2_with fail
    refine (ParMay_any _ _ _ _ _ _ _ _ hM0.out).mono ?_
    rw [hm]
    rintro e w1 ⟨rfl, rfl⟩
    go_wp2
    go_ret2
    exact ⟨_, rfl, ⟨none, 0, fun _ => none, fun _ => 0, rfl, rfl, (fun q e => (by cases e)), (fun i q hi e => (by cases e)), nil_rdM _ _ _ _ _ _⟩, New.refl _⟩
  | true =>
    have hm0 := Lib.hid hm
    obtain ⟨hn1, hn12, hev⟩ := mayC_out hm
    have hev0 := Lib.hid hev
    clear hm hev
    by_cases hp : 1 ≤ p ∧ p ≤ 3
    · have hc : cd = 0 := by rw [hcd.out]; unfold peCode; rw [if_pos hm0.out, if_pos hp]
      have hl : Hid (ln = p.toNat) := by rw [hln.out]; unfold peLen; rw [← hcd.out, hc, if_pos rfl]; exact (rfl : _ = _)
      obtain ⟨q, rfl, hq1, hq3⟩ : ∃ q : Nat, p = q ∧ 1 ≤ q ∧ q ≤ 3 := ⟨p.toNat, by omega, by omega, by omega⟩
      have hlq : ln = q := by rw [hl.out]; simp
      subst hc
      subst hlq
      have hd1 : decide ((ln : Int) < 1) = false := by simp; omega
      have hd2 : decide ((3 : Int) < (ln : Int)) = false := by simp; omega
      obtain ⟨i0, hi0, hz0, hz1, hz2⟩ := info_parts infoU8
      obtain ⟨l, hl0⟩ : ∃ l, Hid (l = L 0) := ⟨_, (rfl : _ = _)⟩
      have hl4 : l ≤ 4096 := by have := (hev0.out 0 (by omega)).2; rw [← hl0.out] at this; exact this
      obtain ⟨b, off, rfl, hb1, hcs⟩ := hM0.out.2.1 (by omega)
      have c0 := hcs 0 (by omega)
      rw [← hl0.out, Nat.add_zero] at c0
      have hcs0 := Lib.hid hcs
      have e0 : (0 : Int) < (n : Int) := by omega
      have e1 : 0 < n := by omega
      have hmk := run_make_row' (P := Try.prog) 22 32 (.slice none 0 0) 24 Try.underlying22 info32 rfl .i64 .i64 ln (by omega) (by omega)
      have hrow0 : Hid ((w.alloc (.cells (madeCells #[.slice none 0 0] ln) 32)).rowIs w.heap.size 32 ln (ouF (fun _ => .slice none 0 0) 0 (.slice none 0 0))) := by rw [ouF_zero]; exact World.rowIs_made w (.slice none 0 0) ln 32
      clear hp hcs
      go_enter Try.func11, Try.ntmps11
      go_wp2_with fail
      refine (ParMay_any _ _ _ _ _ _ _ _ hM0.out).mono ?_
      rw [hm0.out]
      rintro e w1 ⟨rfl, rfl⟩
      go_wp2
      go_loopw [24] (fun k wr => ∃ (j : Nat) (R1 : Nat → Option Addr) (C1 : Nat → Nat), k = .int .i64 j ∧ j ≤ ln ∧ wr.rowIs w.heap.size 32 ln (ouF (fun i => .slice (R1 i) l (C1 i)) j (.slice none 0 0)) ∧ New w wr ∧ Hid (∀ i, i < j → RdI .u8 wr (R1 i) l (fun k => (enN i M n k : Nat)) ∧ l ≤ C1 i ∧ C1 i ≤ maxLen ∧ ∀ q, R1 i = some q → w.heap.size ≤ q.block)) (fun k _ => ln - (intOf k).toNat)
      case atStart => exact ⟨0, fun _ => none, fun _ => 0, rfl, by omega, by rw [ouF_zero]; have := hrow0.out; rw [ouF_zero] at this; exact this, (New.refl w).alloc _, fun i hi => absurd hi (Nat.not_lt_zero i)⟩
      case round =>
        obtain ⟨j, R1, C1, rfl, hj, hrow, hnw, hR⟩ := hrel
        by_cases hlt : j < ln
        · obtain ⟨W0, hW0⟩ : ∃ W0, W0 = wr := ⟨_, rfl⟩
          subst hW0
          have cc0 := (hnw.cell hb1).trans c0
          have hrow1 := Lib.hid hrow
          have hnw1 := Lib.hid hnw
          have hOl : w.heap.size < W0.heap.size := hrow.lt
          have hbl : b < W0.heap.size := Nat.lt_of_lt_of_le hb1 hnw.size
          clear hrow hnw
          go_wp2
          go_loopw [31] (fun c wr => ∃ (k : Nat) (v : Value), c = .int .i64 k ∧ k ≤ l ∧ wr.rowIs w.heap.size 32 ln (ouF (fun i => .slice (R1 i) l (C1 i)) j v) ∧ wr.ownsRow W0.heap.size 5 1 v k (byL (enN j M n) k) ∧ W0.grownBy wr (some w.heap.size)) (fun c _ => l - (intOf c).toNat)
          case atStart => exact ⟨0, _, rfl, by omega, hrow1.out, World.ownsRow_nil _ _ _ _, grown_refl _ _⟩
          case round =>
            obtain ⟨k, v, rfl, hk, hrow2, hown2, hg2⟩ := hrel
            obtain ⟨W1, hW1⟩ : ∃ W1, W1 = wr := ⟨_, rfl⟩
            subst hW1
            have hN2 := Lib.hid (hnw1.out.grown1 hg2 (Nat.le_refl _))
            have hrow3 := Lib.hid hrow2
            have hown3 := Lib.hid hown2
            have hg3 := Lib.hid hg2
            by_cases hkl : k < l
            · clear hrow2 hown2 hg2
              go_wp2
              go_loopw [36, 9] (fun c s wr => ∃ i : Nat, c = .int .i64 i ∧ i ≤ n ∧ s = .int .i64 (enN j M i k : Nat) ∧ New W1 wr) (fun c _ _ => n - (intOf c).toNat)
              case atStart => exact ⟨0, rfl, by omega, by rw [enN_zero]; rfl, New.refl _⟩
              case round =>
                obtain ⟨i, rfl, hi, rfl, hnw3⟩ := hrel
                by_cases hin : i < n
                · have hNi := hN2.out.next hnw3
                  have ci := (hNi.cell hb1).trans (hcs0.out i hin)
                  have hRi : Hid (RdI .u8 w (R i) l (M i)) := by have := (hM0.out.2.2 i hin).1; rw [(hev0.out i hin).1, ← hl0.out] at this; exact this
                  rw [(hev0.out i hin).1, ← hl0.out] at ci
                  obtain ⟨b2, off2, hR2, hb2, hcs2⟩ := hRi.out.2 (by omega)
                  rw [hR2] at ci
                  have ck := (hNi.cell hb2).trans (hcs2 k hkl)
                  obtain ⟨y, hy⟩ : ∃ y : Nat, M i k = y ∧ y < 256 := ⟨(M i k).toNat, by have := hb0.out i hin k (by rw [(hev0.out i hin).1, ← hl0.out]; exact hkl); omega, by have := hb0.out i hin k (by rw [(hev0.out i hin).1, ← hl0.out]; exact hkl); omega⟩
                  rw [hy.1] at ck
                  have hyl := hy.2
                  have hstep := Lib.hid (ref_step j M i k)
                  rw [hy.1, Int.toNat_natCast] at hstep
                  have hbp : j * i ≤ 3 * 12 := Nat.mul_le_mul (by omega) (by omega)
                  obtain ⟨p, hp⟩ : ∃ p, Hid (j * i = p) := ⟨_, (rfl : _ = _)⟩
                  rw [hp.out] at hbp
                  have hpi : (j : Int) * (i : Int) = (p : Int) := by rw [← hp.out, Int.natCast_mul]
                  have hpw : IntKind.i64.wrap (p : Int) = (p : Int) := IntWalk.i64_in _ (by omega)
                  have hfl := fcN_lt j i
                  have hex : Hid (∀ w', Calls Try.prog 26 #[.int .i64 p] w' fun e w'' => e = .returned (.int .i64 (fcN j i : Nat)) ∧ New w' w'') := fun w' => (expOf_any p (by omega) w').mono fun e w'' ⟨h1, h2⟩ => ⟨by rw [h1, ← hp.out, fcN_ref], New.of_same h2⟩
                  generalize fcN j i = f at *
                  have hmo : Hid (∀ w', Calls Try.prog 25 #[.int .i64 f, .int .i64 y] w' fun e w'' => e = .returned (.int .i64 (mul f y : Nat)) ∧ New w' w'') := fun w' => (mulOf_any f y hfl hyl w').mono fun e w'' ⟨h1, h2⟩ => ⟨h1, New.of_same h2⟩
                  have hml := mul_lt f y hfl
                  have hel := enN_lt j M i k
                  generalize mul f y = z at *
                  generalize enN j M i k = u at *
                  have hxo : bits .xor .i64 (u : Int) (z : Int) = ((u ^^^ z : Nat) : Int) := i64_xor_nat u z (by omega) (by omega)
                  have k0 := NewW.keep ci
                  have k1 := NewW.keep ck
                  have f0 : (0 : Int) ≤ (i : Int) := by omega
                  have f1 : (i : Int) < (n : Int) := by omega
                  have f2 : (0 : Int) ≤ (k : Int) := by omega
                  have f3 : (k : Int) < (l : Int) := by omega
                  have hyw : IntKind.i64.wrap (y : Int) = (y : Int) := IntWalk.i64_in _ (by omega)
                  have hnw4 := Lib.hid hnw3
                  clear ci ck hy hR2 hcs2 hNi hnw3
                  go_wp2
                  (refine wp_region_quiet_new (by kernel_rfl) (by kernel_rfl) ?_; (repeat (first | go_big_quiet_step (first | (go_at_call 26; exact NewW.call _ (hex.out _)) | (go_at_call 25; exact NewW.call _ (hmo.out _))) | quiet_step (first | (go_at_call 26; exact NewW.call _ (hex.out _)) | (go_at_call 25; exact NewW.call _ (hmo.out _))))); refine wpQuiet_nil ?_; rintro W5 ⟨⟨_, hn_W5⟩, rfl⟩)
                  clear k0 k1
                  go_wp2
                  go_roundw
                  case rel => exact ⟨i + 1, by go_num, by omega, by rw [hstep.out], hnw4.out.next hn_W5⟩
                  case measure => simp [intOf]; omega
                · have hine : i = n := by omega
                  subst hine
                  have hrow4 := row_new hrow3.out hnw3
                  have hown4 := own_new hown3.out hnw3
                  have hg4 := Lib.hid (hg3.out.trans (grown_new hnw3 (some w.heap.size)))
                  have cj := hrow4.cell hlt
                  rw [ouF_at] at cj
                  have hel := enN_lt j M i k
                  have hrow5 := Lib.hid hrow4
                  have hown5 := Lib.hid hown4
                  have hnext := Lib.hid (byL_succ (enN j M i) k)
                  have hfar := Lib.hid (own_far hown4 hOl)
                  generalize enN j M i k = u at *
                  have hsz := hg4.out.size
                  have hll : l ≤ 4096 := hl4
                  have hOr : w.heap.size < wr.heap.size := hrow4.lt
                  clear hrow4 hown4 hnw3
                  go_wp2_with (at_builtin; refine wpList_append_own _ rfl _ _ 32 rfl W0.heap.size 5 i0 _ 1 1 Try.underlying32 hi0 hz0 hz1 hz2 rfl (by decide) v k (byL (enN j M i) k) rfl (hown5.out.alloc _) ⟨wr.heap.size, 0, none⟩ 1 1 [.int .u8 u] rfl rfl (World.news_of_block (cs := #[.int .u8 u]) (t := 5) (fr := (0, 0)) (heap_alloc_new wr _)) (by simp [Value.oneCell']) (by unfold maxLen; omega) (by omega) (by simp; omega) ?_; intro v6 w6 hown6 hgrow hnil; clear hnil; obtain ⟨A6, c6, rfl, _⟩ := own_open hown6; have hrow6 := row_grown (hrow5.out.alloc _) hgrow hfar.out; have hc6 := hrow6.cell hlt; have hf6 := hrow6.frozen j; have hrow7 := Lib.hid hrow6; clear hrow6)
                  rw [← hnext.out] at hown6
                  have hg7 := Lib.hid (((hg4.out.trans (World.grownBy_alloc _ (.cells #[.int .u8 u] 5) _)).andThen hgrow fun g hg => .inl ((hown5.out.lt _ hg).1)).trans (grown_set w6 w.heap.size j (.slice A6 (k + 1) c6)))
                  have hrow8 := hrow7.out.set j (.slice A6 (k + 1) c6)
                  rw [ouF_set] at hrow8
                  have hrow9 := Lib.hid hrow8
                  have hown9 := Lib.hid (ownsRow_setCell_below hown6 (a := ⟨w.heap.size, j, none⟩) hOl (.slice A6 (k + 1) c6))
                  clear hgrow hown6 hrow8
                  go_wp2
                  go_roundw
                  case rel => exact ⟨k + 1, .slice A6 (k + 1) c6, by go_num, by omega, hrow9.out, hown9.out, hg7.out⟩
                  case measure => simp [intOf]; omega
            · have hke : k = l := by omega
              obtain ⟨A9, c9, hv9, h91, h92, hR9, hl9⟩ := own_rdI (F := enN j M n) (by rw [hke] at hown2; exact hown2) (by unfold maxLen; omega)
              have hnx := ouF_next (fun i => Value.slice (R1 i) l (C1 i)) j v
              have hR8 : Hid (∀ i, i < j + 1 → RdI .u8 W1 ((fun i => if i = j then A9 else R1 i) i) l (fun k => (enN i M n k : Nat)) ∧ l ≤ (fun i => if i = j then c9 else C1 i) i ∧ (fun i => if i = j then c9 else C1 i) i ≤ maxLen ∧ ∀ q, (fun i => if i = j then A9 else R1 i) i = some q → w.heap.size ≤ q.block) := fun i hi => by
                by_cases hij : i = j
                · subst hij
                  simp only [if_pos]
                  exact ⟨hR9, h91, h92, fun q e => Nat.le_trans (Nat.le_of_lt hOl) (hl9 q e)⟩
                · simp only [if_neg hij]
                  obtain ⟨q1, q2, q3⟩ := hR.out i (by omega)
                  exact ⟨rdI_grown q1 hg2 (rdI_ne q1 hrow1.out fun i' _ z => ouF_no _ _ _ _ _ _), q2, q3⟩
              have hrow8 : Hid (W1.rowIs w.heap.size 32 ln (ouF (fun i => .slice ((fun i => if i = j then A9 else R1 i) i) l ((fun i => if i = j then c9 else C1 i) i)) (j + 1) (.slice none 0 0))) := hrow2.congr fun i _ => by
                rw [hnx, hv9]
                congr 1
                funext i
                by_cases hij : i = j
                · simp only [if_pos hij]
                · simp only [if_neg hij]
              clear hrow2 hown2 hg2 hnx hv9 hR9
              go_wp2
              go_roundw
              case rel => exact ⟨j + 1, _, _, by go_num, by omega, hrow8.out, hN2.out, hR8⟩
              case measure => simp [intOf]; omega
        · have hjl : j = ln := by omega
          subst hjl
          have hfin : Hid (RdM .u8 wr (some ⟨w.heap.size, 0, none⟩) j R1 (fun _ => l) C1 (fun i k => (enN i M n k : Nat))) := ⟨by unfold maxLen; omega, fun h0 => ⟨w.heap.size, 0, rfl, hrow.lt, fun i hi => by
            have := hrow.cell hi
            rw [Nat.zero_add, this]
            unfold ouF
            rw [if_pos hi]⟩, fun i hi => ⟨(hR.out i hi).1, (hR.out i hi).2.1, (hR.out i hi).2.2.1⟩⟩
          have hnw1 := Lib.hid hnw
          clear hrow hnw
          go_wp2
          go_ret2
          exact ⟨_, rfl, ⟨_, _, _, _, rfl, rfl, fun q e => (by cases e; exact Nat.le_refl _), fun i q hi e => (hR.out i hi).2.2.2 q e, by rw [← hl0.out]; exact hfin.out⟩, hnw1.out⟩
    · have hc : cd = 2 := by rw [hcd.out]; unfold peCode; rw [if_pos hm0.out, if_neg hp]
      have hl : ln = 0 := by rw [hln.out]; unfold peLen; rw [← hcd.out]; simp [hc]
      subst hc hl
      have hC : Calls Try.prog 11 #[.slice A n c, .int .i64 p] w fun e w' => e = .returned (.tuple #[.slice none 0 0, .int .i64 2]) ∧ w = w' := by
        go_enter Try.func11, Try.ntmps11
        go_wp2_with fail
        refine (ParMay_any _ _ _ _ _ _ _ _ hM0.out).mono ?_
        rw [hm0.out]
        rintro e w1 ⟨rfl, rfl⟩
        go_wp2
        all_goals first
          | (exfalso; omega)
          | (go_ret2; exact ⟨rfl, rfl⟩)
      refine hC.mono ?_
      rintro e w' ⟨he, rfl⟩
      exact ⟨_, he, ⟨none, 0, fun _ => none, fun _ => 0, rfl, rfl, (fun q e => (by cases e)), (fun i q hi e => (by cases e)), nil_rdM _ _ _ _ _ _⟩, New.refl _⟩
theorem ParEncode_cap (A : Option Addr) (n c : Nat) (p : Int) (R : Nat → Option Addr) (L C : Nat → Nat) (M : Nat → Nat → Int) (w : World) (hM : RdM .u8 w A n R L C M) (hb : ∀ i, i < n → ∀ k, k < L i → 0 ≤ M i k ∧ M i k ≤ 255) :
    Calls Try.prog 11 #[.slice A n c, .int .i64 p] w fun e w' => ∃ v, e = .returned (.tuple #[v, .int .i64 (peCode n L p)]) ∧
      (∃ B d R1 C1, v = .slice B (peLen n L p) d ∧ d = peLen n L p ∧ RdM .u8 w' B (peLen n L p) R1 (fun _ => L 0) C1 (fun j k => (enN j M n k : Nat))) ∧ New w w' := by
  exact (ParEncode_new A n c p R L C M w hM hb).mono fun e w' ⟨v, h1, ⟨B, d, R1, C1, h2, h3, _, _, h4⟩, h5⟩ => ⟨v, h1, ⟨B, d, R1, C1, h2, h3, h4⟩, h5⟩
theorem ParEncode_any (A : Option Addr) (n c : Nat) (p : Int) (R : Nat → Option Addr) (L C : Nat → Nat) (M : Nat → Nat → Int) (w : World) (hM : RdM .u8 w A n R L C M) (hb : ∀ i, i < n → ∀ k, k < L i → 0 ≤ M i k ∧ M i k ≤ 255) :
    Calls Try.prog 11 #[.slice A n c, .int .i64 p] w fun e w' => ∃ v, e = .returned (.tuple #[v, .int .i64 (peCode n L p)]) ∧
      (∃ B d R1 C1, v = .slice B (peLen n L p) d ∧ RdM .u8 w' B (peLen n L p) R1 (fun _ => L 0) C1 (fun j k => (enN j M n k : Nat))) ∧ New w w' := by
  exact (ParEncode_cap A n c p R L C M w hM hb).mono fun e w' ⟨v, h1, ⟨B, d, R1, C1, h2, _, h3⟩, h4⟩ => ⟨v, h1, ⟨B, d, R1, C1, h2, h3⟩, h4⟩
end Go.Proofs.Ytjmjnodaohbpfaa.par
