/-
  Contract: units are taken.
-/
import Derived.Test.YthjjchlibbheaaaSpacePlain
import Derived.Deep.RegionLaw
import Derived.Deep.RegionHeld3
import Derived.OneCell
import Derived.Deep.DeepCutAuto
import Derived.Deep.CutBlock
namespace Go.Proofs.Ythjjchlibbheaaa.space
open Go.ChangeShapes Go.WideShapes Go.ChangeAt Go.RowKit Go.Proofs.Ythjjchlibbheaaa.kit Go.Deep
set_option linter.unusedVariables false

theorem infoRec : (Try.prog.info? 77).map (fun i => (i.zero, i.size, i.bytes)) = some (some (.agg #[.bool false, .int .i64 0, .int .i64 0]), 3, 24) := by kernel_rfl
def rrV (p : Bool × Nat × Nat) : List Value := [.bool p.1, .int .i64 (p.2.1 : Nat), .int .i64 (p.2.2 : Nat)]
def rrL (l : List (Bool × Nat × Nat)) : List Value := l.flatMap rrV
theorem rrL_app (l : List (Bool × Nat × Nat)) (p : Bool × Nat × Nat) : rrL (l ++ [p]) = rrL l ++ rrV p := by simp [rrL]
/-- a space with its log -/
def SpaceL (B : Nat) (w : World) (G U n : Nat) (u : Nat → Nat) (recs : List (Bool × Nat × Nat)) : Prop :=
  B ≤ G ∧ B ≤ U ∧ G ≠ U ∧ ∃ log, SpaceAt w G U n (cntU 0 u n : Nat) log u ∧ w.ownsRow B 77 3 log recs.length (rrL recs)
theorem takeAt_mono (b : Nat → Bool) (c f : Nat) (k : Nat) (h : takeAt b c k = some f) : ∀ e, takeAt b c (k + e) = some f
  | 0 => h
  | e + 1 => by
    show els (takeAt b c (k + e)) _ = some f
    rw [takeAt_mono b c f k h e]; rfl
theorem row_next (b : Nat → Bool) (k : Nat) : rowN (k + 1) (stN b (k + 1)).2 = if b k then rowN k (stN b k).2 + 1 else 0 := by
  cases hs : stN b k with
  | mk o g =>
    cases g with
    | none =>
      cases hb : b k with
      | false => rw [step_nf hs hb]; rfl
      | true => rw [step_nt hs hb]; show k + 1 - k = 0 + 1; omega
    | some f =>
      have hf := stN_fr b k f (by rw [hs])
      cases hb : b k with
      | false => rw [step_sf hs hb]; rfl
      | true => rw [step_st hs hb]; show k + 1 - f = k - f + 1; omega
theorem row_le (b : Nat → Bool) (k : Nat) : rowN k (stN b k).2 ≤ k := by
  cases (stN b k).2 with
  | none => exact Nat.zero_le _
  | some f => exact Nat.sub_le _ _
theorem firstL_mem (c : Nat) : ∀ (l : List (Nat × Nat)) (f : Nat), firstL c l = some f → ∃ p ∈ l, p.1 = f ∧ c ≤ p.2 - p.1
  | [], f, h => by simp [firstL] at h
  | p :: l, f, h => by
    have hh : els (lngP c p) (firstL c l) = some f := h
    by_cases hc : c ≤ p.2 - p.1
    · rw [show lngP c p = some p.1 from if_pos hc] at hh
      injection hh with hh
      exact ⟨p, by simp, hh, hc⟩
    · rw [show lngP c p = none from if_neg hc] at hh
      obtain ⟨q, hq, h1⟩ := firstL_mem c l f hh
      exact ⟨q, by simp [hq], h1⟩
theorem take_free (u : Nat → Nat) (c n f : Nat) (hc : 1 ≤ c) (h : takeAt (fun i => decide (u i = 0)) c n = some f) : f + c ≤ n ∧ ∀ j, f ≤ j → j < f + c → u j = 0 := by
  rw [take_first _ c hc] at h
  obtain ⟨p, hp, rfl, h1⟩ := firstL_mem c _ f h
  obtain ⟨h2, h3, h4⟩ := list_true _ n p hp
  refine ⟨by omega, fun j g1 g2 => ?_⟩
  have := h4 j g1 (by omega)
  simpa using this
abbrev fnd (c f : Int) : Value := .agg #[.int .i64 c, .int .i64 f, .int .i64 0]
/-- an own row is no row of another type -/
theorem own_ne_row {w : World} {b : Nat} {e t : TypeId} {s n g m : Nat} {v : Value} {xs : List Value} {f : Nat → Value} (h : w.ownsRow b e s v n xs) (h' : w.rowIs g t m f) (hne : e ≠ t) : v.ownBlock ≠ some g := by
  intro he
  rcases h.2 with ⟨rfl, _⟩ | ⟨g', cap, cur, rfl, _, hg, _⟩
  · cases he
  · have hgg : g' = g := by simpa [Value.ownBlock] using he
    subst hgg
    obtain ⟨c, hc, _⟩ := h'
    rw [hg] at hc
    injection hc with hc
    injection hc with _ hc _
    exact hne hc
theorem own_ne_blk {w : World} {b : Nat} {e t : TypeId} {s n g : Nat} {v : Value} {xs : List Value} {cs : Array Value} (h : w.ownsRow b e s v n xs) (h' : Blk w g t cs) (hne : e ≠ t) : v.ownBlock ≠ some g := by
  intro he
  rcases h.2 with ⟨rfl, _⟩ | ⟨g', cap, cur, rfl, _, hg, _⟩
  · cases he
  · have hgg : g' = g := by simpa [Value.ownBlock] using he
    subst hgg
    unfold Blk at h'
    rw [hg] at h'
    injection h' with hc
    injection hc with _ hc _
    exact hne hc
theorem rowIs_grown {w w' : World} {b : Nat} {t : TypeId} {n : Nat} {f : Nat → Value} {row : Option Nat} (h : w.rowIs b t n f) (hg : w.grownBy w' row) (hr : row ≠ some b) : w'.rowIs b t n f := h.of_block (hg.block _ h.lt (Ne.symm hr))
theorem below_append {B : Nat} {w W w5 : World} {o : Obj} {row : Option Nat} (h : Below B w W) (hg : (W.alloc o).drew.grownBy w5 row) (hB : B ≤ W.heap.size) (hr : ∀ g, row = some g → B ≤ g) : Below B w w5 := by
  have h1 : Below B w (W.alloc o) := Below.alloc h hB o
  have h2 : Below B w (W.alloc o).drew := ⟨h1.os, h1.tape, h1.output, h1.size, h1.block⟩
  exact Below.grown h2 hg (by simp; omega) hr
/-- types of blocks that a space writes -/
def tin (t : TypeId) : Prop := t = 81 ∨ t = 5 ∨ t = 77
/-- all old blocks of other types are as they were -/
def KeepT (w w' : World) : Prop := ∀ (b : Nat) (o : Obj), w.heap[b]? = some o → (∀ cs t fr, o = .cells cs t fr → ¬ tin t) → w'.heap[b]? = some o
theorem lt_of_obj {w : World} {b : Nat} {o : Obj} (h : w.heap[b]? = some o) : b < w.heap.size := (Array.getElem?_eq_some_iff.1 h).1
theorem KeepT.refl (w : World) : KeepT w w := fun _ _ h _ => h
theorem KeepT.trans {a b c : World} (h : KeepT a b) (k : KeepT b c) : KeepT a c := fun i o hi ht => k i o (h i o hi ht) ht
theorem KeepT.new {a b c : World} (h : KeepT a b) (hn : New b c) : KeepT a c := fun i o hi ht => by
  have h1 := h i o hi ht
  exact (hn.block i (lt_of_obj h1)).trans h1
theorem KeepT.grown {a b c : World} {row : Option Nat} (h : KeepT a b) (hg : b.grownBy c row) (hr : ∀ g, row = some g → a.heap.size ≤ g ∨ ∃ cs t fr, b.heap[g]? = some (.cells cs t fr) ∧ tin t) : KeepT a c := fun i o hi ht => by
  have h1 := h i o hi ht
  refine (hg.block i (lt_of_obj h1) fun he => ?_).trans h1
  rcases hr i he.symm with h2 | ⟨cs, t, fr, h2, h3⟩
  · exact absurd (lt_of_obj hi) (by omega)
  · rw [h1] at h2
    injection h2 with h2
    exact ht _ _ _ h2 h3
theorem KeepT.set {a b : World} (h : KeepT a b) {p : Addr} (v : Value) (hr : a.heap.size ≤ p.block ∨ ∃ cs t fr, b.heap[p.block]? = some (.cells cs t fr) ∧ tin t) : KeepT a (b.setCell p v) := fun i o hi ht => by
  have h1 := h i o hi ht
  have hne : i ≠ p.block := fun he => by
    rcases hr with h2 | ⟨cs, t, fr, h2, h3⟩
    · have := lt_of_obj hi; omega
    · rw [← he, h1] at h2
      injection h2 with h2
      exact ht _ _ _ h2 h3
  exact (Below.heap_setCell _ _ _ _ hne).trans h1
theorem tin_row {w : World} {g n : Nat} {t : TypeId} {f : Nat → Value} (h : w.rowIs g t n f) (ht : tin t) : ∃ cs t fr, w.heap[g]? = some (.cells cs t fr) ∧ tin t := by
  obtain ⟨c, hc, _⟩ := h
  exact ⟨_, _, _, hc, ht⟩
theorem tin_blk {w : World} {g : Nat} {t : TypeId} {cs : Array Value} (h : Blk w g t cs) (ht : tin t) : ∃ cs t fr, w.heap[g]? = some (.cells cs t fr) ∧ tin t := ⟨_, _, _, h, ht⟩
theorem tin_own {w : World} {b s n g : Nat} {e : TypeId} {v : Value} {xs : List Value} (h : w.ownsRow b e s v n xs) (ht : tin e) (hg : v.ownBlock = some g) : ∃ cs t fr, w.heap[g]? = some (.cells cs t fr) ∧ tin t := by
  rcases h.2 with ⟨rfl, _⟩ | ⟨g', cap, cur, rfl, _, hc, _⟩
  · cases hg
  · have : g' = g := by simpa [Value.ownBlock] using hg
    subst this
    exact ⟨_, _, _, hc, ht⟩
theorem keep_append {w W w5 : World} {o : Obj} {b s n : Nat} {v : Value} {xs : List Value} (h : KeepT w W) (hg : (W.alloc o).drew.grownBy w5 v.ownBlock) (hl : W.ownsRow b 77 s v n xs) : KeepT w w5 := by
  have h1 : KeepT w (W.alloc o) := h.new ((New.refl W).alloc o)
  refine KeepT.grown (b := (W.alloc o).drew) h1 hg fun g he => .inr ?_
  exact tin_own (w := (W.alloc o).drew) (hl.alloc o).drew (.inr (.inr rfl)) he
theorem take_bad (B G U n : Nat) (u : Nat → Nat) (recs : List (Bool × Nat × Nat)) (c : Int) (w : World) (h : SpaceL B w G U n u recs) (hc : c < 1 ∨ (n : Int) < c) :
    Calls Try.prog 57 #[.pointer (some ⟨G, 0, none⟩), .int .i64 c] w fun e w' => e = .returned (fnd 2 0) ∧ New w w' := by
  obtain ⟨hBG, hBU, hGU, log, ⟨hG, hU, hUl⟩, hlog⟩ := h
  have c0 := hG.cell 0
  simp at c0
  have hGl := hG.lt
  clear hG hU hlog
  have hN : New w (w.alloc (.cells #[.int .i64 0, .int .i64 0, .int .i64 0] 85)) := (New.refl _).alloc _
  go_enter Try.func57, Try.ntmps57
  go_wp2
  all_goals exact bodyPost_ret (v := fnd 2 0) (by simp [results, Try.results57, go_sem, fnd]) rfl ⟨rfl, (New.refl _).alloc _⟩
set_option maxHeartbeats 1000000 in
theorem take_ok (B G U n c : Nat) (u : Nat → Nat) (recs : List (Bool × Nat × Nat)) (w : World) (h : SpaceL B w G U n u recs) (hc1 : 1 ≤ c) (hcn : c ≤ n) (hn : n ≤ 4096) (hu : ∀ j, u j < 256) (hrs : recs.length ≤ 10000000) :
    Calls Try.prog 57 #[.pointer (some ⟨G, 0, none⟩), .int .i64 c] w fun e w' =>
      ((takeAt (fun i => decide (u i = 0)) c n = none ∧ e = .returned (fnd 8 0) ∧ SpaceL B w' G U n u recs) ∨
       (∃ f : Nat, takeAt (fun i => decide (u i = 0)) c n = some f ∧ e = .returned (fnd 0 f) ∧ SpaceL B w' G U n (setU u f (f + c) 1) (recs ++ [(false, f, f + c)]))) ∧ Below B w w' ∧ KeepT w w' := by
  obtain ⟨hBG, hBU, hGU, log, hSp, hlog⟩ := h
  obtain ⟨b, hb⟩ : ∃ b, Hid (b = fun i => decide (u i = 0)) := ⟨_, (rfl : _ = _)⟩
  rw [← hb.out]
  have hSp0 := Lib.hid hSp
  have hlog0 := Lib.hid hlog
  have hu0 := Lib.hid hu
  have c0 := hSp.1.cell 0
  simp at c0
  have hGl := hSp.1.lt
  have hUl := hSp.2.2
  have hcnt := Lib.hid (cntU_le 0 u n)
  clear hSp hlog hu
  have h1 : ¬ (c : Int) < 1 := by omega
  have h2 : ¬ (n : Int) < (c : Int) := by omega
  have hBw : B ≤ w.heap.size := by omega
  go_enter Try.func57, Try.ntmps57
  go_wp2
  go_loopw [26, 5] (fun k r wr => ∃ i : Nat, k = .int .i64 i ∧ i ≤ n ∧ r = .int .i64 (rowN i (stN b i).2 : Nat) ∧ Hid (takeAt b c i = none) ∧ New w wr ∧ Blk wr w.heap.size 85 #[.int .i64 0, .int .i64 0, .int .i64 0]) (fun k _ _ => n - (intOf k).toNat)
  case atStart => exact ⟨0, rfl, by omega, rfl, rfl, (New.refl w).alloc _, Blk.fresh _ _ _⟩
  case round =>
    obtain ⟨i, rfl, hi, rfl, hnone, hnw, hR⟩ := hrel
    by_cases hlt : i < n
    · obtain ⟨y, hy⟩ : ∃ y, Hid (y = u i) := ⟨_, (rfl : _ = _)⟩
      have d0 : wr.cell? ⟨U, i, none⟩ = some (.int .u8 (y : Int)) := by
        rw [hy.out]; exact (hnw.cell (p := ⟨U, i, none⟩) hUl).trans (hSp0.out.2.1.cell (by omega))
      obtain ⟨r, hr⟩ : ∃ r, Hid (r = rowN i (stN b i).2) := ⟨_, (rfl : _ = _)⟩
      have hri : r ≤ i := by rw [hr.out]; exact row_le b i
      rw [← hr.out]
      obtain ⟨r', hr'⟩ : ∃ r', Hid (r' = if (y : Int) = 0 then r + 1 else 0) := ⟨_, (rfl : _ = _)⟩
      have hrow : Hid (rowN (i + 1) (stN b (i + 1)).2 = r') := by
        have e : b i = decide (y = 0) := by rw [hb.out, hy.out]
        rw [row_next, ← hr.out, hr'.out, e]
        by_cases h0 : y = 0
        · subst h0; exact (rfl : _ = _)
        · rw [decide_eq_false h0, if_neg (show ¬ (y : Int) = 0 by omega)]; exact (rfl : _ = _)
      have hri' : r' ≤ i + 1 := by rw [hr'.out]; split <;> omega
      go_upto_if 34 with fail
      go_cut [5] (fun x wx => x = .int .i64 r' ∧ wx = wr)
      case first =>
        by_cases h0 : (y : Int) = 0
        · have hy0 : ((y : Int) != 0) = false := by simp; omega
          have hrv : Hid (r' = r + 1) := by rw [hr'.out, if_pos h0]; exact (rfl : _ = _)
          clear h0
          go_wp2
          go_meet
          exact ⟨intv (by rw [hrv.out]; push_cast; rfl), rfl⟩
        · have hy0 : ((y : Int) != 0) = true := by simp; omega
          have hrv : Hid (r' = 0) := by rw [hr'.out, if_neg h0]; exact (rfl : _ = _)
          clear h0
          go_wp2
          go_meet
          exact ⟨intv (by rw [hrv.out]; rfl), rfl⟩
      case rest =>
        obtain ⟨rfl, rfl⟩ := hcut
        by_cases hhit : (r' : Int) = (c : Int)
        · have hrc : r' = c := by omega
          obtain ⟨f, hf⟩ : ∃ f, Hid (f = i + 1 - c) := ⟨_, (rfl : _ = _)⟩
          have hfc : f + c = i + 1 := by rw [hf.out]; omega
          have htake : Hid (takeAt b c n = some f) := by
            obtain ⟨e, he⟩ : ∃ e, n = i + 1 + e := ⟨n - (i + 1), by omega⟩
            rw [he]
            refine takeAt_mono b c f (i + 1) ?_ e
            show els (takeAt b c i) (hitN c (i + 1) (stN b (i + 1)).2) = some f
            rw [hnone.out]
            show hitN c (i + 1) (stN b (i + 1)).2 = some f
            unfold hitN
            rw [hrow.out, if_pos hrc, hf.out]
          have hfree : Hid (f + c ≤ n ∧ ∀ j, f ≤ j → j < f + c → u j = 0) := take_free u c n f hc1 (by rw [← hb.out]; exact htake.out)
          obtain ⟨t, ht⟩ : ∃ t, Hid (t = f + c) := ⟨_, (rfl : _ = _)⟩
          have e2 : (i : Int) + 1 = (t : Int) := by rw [ht.out]; push_cast; omega
          have e1 : (t : Int) - (c : Int) = (f : Int) := by rw [ht.out]; push_cast; omega
          obtain ⟨q, hq⟩ : ∃ q, Hid (q = cntU 0 u n) := ⟨_, (rfl : _ = _)⟩
          obtain ⟨q', hq'⟩ : ∃ q', Hid (q' = cntU 0 (setU u f t 1) n) := ⟨_, (rfl : _ = _)⟩
          have hqq : q' + c = q := by
            have := cnt_take u f t (by rw [ht.out]; omega) (by rw [ht.out]; exact hfree.out.2) n (by rw [ht.out]; exact hfree.out.1)
            rw [← hq.out, ← hq'.out, ht.out] at this; omega
          have hqn : q ≤ n := by rw [hq.out]; exact hcnt.out
          have e3 : (q : Int) - (c : Int) = (q' : Int) := by omega
          have hSpc := hSp0.out.new hnw
          rw [← hq.out] at hSpc
          have hlogc := own_new hlog0.out hnw
          have hRc := hR
          clear d0 hR
          go_upto_region 12 with fail
          obtain ⟨W1, hW1⟩ : ∃ W1, W1 = wc.alloc (.cells #[.int .i64 f, .int .i64 t] 75) := ⟨_, rfl⟩
          rw [← hW1]
          have hb1 : Blk W1 wc.heap.size 75 #[.int .i64 f, .int .i64 t] := by rw [hW1]; exact Blk.fresh _ _ _
          have hN1 : New wc W1 := by rw [hW1]; exact (New.refl _).alloc _
          clear hW1
          have r0 := hb1.cell 0
          have r1 := hb1.cell 1
          simp at r0 r1
          have hR1 := hRc.new hN1
          have hl1 := own_new hlogc hN1
          have hSp1 := hSpc.new hN1
          have hGw : G < wc.heap.size := hSpc.1.lt
          have hNw := hnw.next hN1
          clear hSpc hlogc hRc
          go_wp2_with fail
          refine (set_ok G U n f t 1 q log u W1 hSp1 hGU (by rw [ht.out]; omega) (by rw [ht.out]; exact hfree.out.1) hn).mono ?_
          rintro e w3 ⟨rfl, hSp3, hg3⟩
          have hN3 : Below B w w3 := Below.grown (hNw.mono hBw) hg3 (by have := hNw.size; omega) (fun g hg => by injection hg with hg; omega)
          have hlU : log.ownBlock ≠ some U := own_ne_row hl1 hSp1.2.1 (by decide)
          have hK3 : KeepT w w3 := ((KeepT.refl w).new hNw).grown hg3 (fun g hg => .inr (by injection hg with hg; subst hg; exact tin_row hSp1.2.1 (.inr (.inl rfl))))
          have hl3 := hl1.kept hg3 (.inr hlU)
          have hUb : wc.heap.size ≠ U := by have := hnw.size; omega
          have hb3 := hb1.grown hg3 (by simp; omega)
          have hR3 := hR1.grown hg3 (by simp; omega)
          have g1 := hSp3.1.cell 1
          have gf1 := hSp3.1.frozen 1
          simp at g1
          have hwcl := hnw.size
          go_upto_region 14 with fail
          obtain ⟨W4, hW4⟩ : ∃ W4, W4 = w3.setCell ⟨G, 1, none⟩ (.int .i64 q') := ⟨_, rfl⟩
          rw [← hW4]
          have k4 : Blk W4 G 81 #[.slice (some ⟨U, 0, none⟩) n n, .int .i64 q', log] := by rw [hW4]; exact hSp3.1.put 1 (.int .i64 q')
          have u4 : W4.rowIs U 5 n (byF (setU u f t 1)) := by rw [hW4]; exact hSp3.2.1.setOther (by simp; omega) _
          have hlG : log.ownBlock ≠ some G := own_ne_blk hl3 hSp3.1 (by decide)
          have l4 : W4.ownsRow B 77 3 log recs.length (rrL recs) := by rw [hW4]; exact ownsRow_setCell_other hl3 (a := ⟨G, 1, none⟩) hlG _
          have b4 : Blk W4 wc.heap.size 75 #[.int .i64 f, .int .i64 t] := by rw [hW4]; exact hb3.far (by simp; omega) _
          have R4 : Blk W4 w.heap.size 85 #[.int .i64 0, .int .i64 0, .int .i64 0] := by rw [hW4]; exact hR3.far (by simp; omega) _
          have hK4 : KeepT w W4 := by rw [hW4]; exact hK3.set (p := ⟨G, 1, none⟩) _ (.inr (tin_blk hSp3.1 (.inl rfl)))
          have hN4 : Below B w W4 := by rw [hW4]; exact Below.setCell hN3 (p := ⟨G, 1, none⟩) hBG _
          clear hW4 hSp3 hl3 hb3 hR3 g1 gf1 hg3 hSp1 hl1 hb1 hR1 r0 r1
          have c2 := k4.cell 2
          have f2 := k4.frozen 2
          have r0 := b4.cell 0
          have r1 := b4.cell 1
          simp at c2 r0 r1
          have hGW : G < W4.heap.size := k4.lt
          obtain ⟨i0, hi0, hz0, hz1, hz2⟩ := info_parts infoRec
          have hBW4 : B ≤ W4.heap.size := by omega
          go_cut [] (fun wx => ∃ gg cap1, Blk wx G 81 #[.slice (some ⟨U, 0, none⟩) n n, .int .i64 q', .slice (some ⟨gg, 0, none⟩) (recs.length + 1) cap1] ∧ wx.ownsRow B 77 3 (.slice (some ⟨gg, 0, none⟩) (recs.length + 1) cap1) (recs.length + 1) (rrL recs ++ [.bool false, .int .i64 f, .int .i64 t]) ∧ wx.rowIs U 5 n (byF (setU u f t 1)) ∧
            Blk wx wc.heap.size 75 #[.int .i64 f, .int .i64 t] ∧ Blk wx w.heap.size 85 #[.int .i64 0, .int .i64 0, .int .i64 0] ∧ Below B w wx ∧ KeepT w wx)
          case first =>
            have hlU4 : log.ownBlock ≠ some U := hlU
            have hlb : log.ownBlock ≠ some wc.heap.size := own_ne_blk l4 b4 (by decide)
            have hlR : log.ownBlock ≠ some w.heap.size := own_ne_blk l4 R4 (by decide)
            go_region_law (first | (refine step_append_lies _ (by rfl) _ _ _ (by rfl) B 77 i0 _ 3 24 Try.underlying22 hi0 hz0 hz1 hz2 rfl (by decide) _ recs.length (rrL recs) (by rfl) ((l4.alloc _).drew) ⟨W4.heap.size, 0, none⟩ 1 1 [.bool false, .int .i64 f, .int .i64 t] (by rfl) (by rfl) (World.news_of_block (cs := #[.bool _, .int .i64 _, .int .i64 _]) (t := 77) (fr := (0, 0)) (heap_alloc_new W4 _)) (by simp [Value.oneCell']) (by omega) (by unfold maxLen; omega) (by omega) (by simp; omega) (W4.heap.size + 1) (by simp) ?_; intro gg cap1 w5 hown5 hgrow hat hlt5; have k5 := (k4.alloc (.cells #[.bool false, .int .i64 f, .int .i64 t] 77)).drew.grown hgrow hlG; have c5 := k5.cell 2; have f5 := k5.frozen 2; simp at c5))
            all_goals go_wp2_with fail
            all_goals go_meet
            all_goals have hneG := own_ne_blk hown5 k5 (by decide)
            all_goals have hu5 := rowIs_grown (u4.alloc (.cells #[.bool false, .int .i64 f, .int .i64 t] 77)).drew hgrow hlU4
            all_goals have hb5 := (b4.alloc (.cells #[.bool false, .int .i64 f, .int .i64 t] 77)).drew.grown hgrow hlb
            all_goals have hR5 := (R4.alloc (.cells #[.bool false, .int .i64 f, .int .i64 t] 77)).drew.grown hgrow hlR
            all_goals have hN5 := below_append hN4 hgrow hBW4 (fun g hg => (l4.lt g hg).1)
            all_goals have hK5 := keep_append hK4 hgrow l4
            all_goals exact ⟨gg, cap1, k5.put 2 _, ownsRow_setCell_other hown5 (a := ⟨G, 2, none⟩) hneG _, hu5.setOther (by simp; omega) _, hb5.far (by simp; omega) _, hR5.far (by simp; omega) _, Below.setCell hN5 (p := ⟨G, 2, none⟩) hBG _, hK5.set (p := ⟨G, 2, none⟩) _ (.inr (tin_blk k5 (.inl rfl)))⟩
          case rest =>
            obtain ⟨gg, cap1, k6, l6, u6, b6, R6, hN6, hK6⟩ := hcut
            have r0 := b6.cell 0
            have s0 := R6.cell 0
            have s1 := R6.cell 1
            have s2 := R6.cell 2
            have f0 := R6.frozen 0
            have f1 := R6.frozen 1
            have f2 := R6.frozen 2
            simp at r0 s0 s1 s2
            have R7 := ((R6.put 0 (.int .i64 0)).put 1 (.int .i64 f)).put 2 (.int .i64 0)
            have p0 := R7.cell 0
            have p1 := R7.cell 1
            have p2 := R7.cell 2
            simp at p0 p1 p2
            have hp := Lib.hid (And.intro p0 (And.intro p1 p2))
            clear p0 p1 p2 R7
            go_wp2
            obtain ⟨p0, p1, p2⟩ := hp.out
            have hlR6 := own_ne_blk l6 R6 (by decide)
            have l7 := ownsRow_setCell_other (ownsRow_setCell_other (ownsRow_setCell_other l6 (a := ⟨w.heap.size, 0, none⟩) hlR6 (.int .i64 0)) (a := ⟨w.heap.size, 1, none⟩) hlR6 (.int .i64 f)) (a := ⟨w.heap.size, 2, none⟩) hlR6 (.int .i64 0)
            have hGR : G ≠ w.heap.size := by omega
            have hUR : U ≠ w.heap.size := by omega
            have k7 := ((k6.far (p := ⟨w.heap.size, 0, none⟩) hGR (.int .i64 0)).far (p := ⟨w.heap.size, 1, none⟩) hGR (.int .i64 f)).far (p := ⟨w.heap.size, 2, none⟩) hGR (.int .i64 0)
            have u7 := ((u6.setOther (a := ⟨w.heap.size, 0, none⟩) hUR (.int .i64 0)).setOther (a := ⟨w.heap.size, 1, none⟩) hUR (.int .i64 f)).setOther (a := ⟨w.heap.size, 2, none⟩) hUR (.int .i64 0)
            have hN7 := Below.setCell (Below.setCell (Below.setCell hN6 (p := ⟨w.heap.size, 0, none⟩) hBw (.int .i64 0)) (p := ⟨w.heap.size, 1, none⟩) hBw (.int .i64 f)) (p := ⟨w.heap.size, 2, none⟩) hBw (.int .i64 0)
            have hK7 := ((hK6.set (p := ⟨w.heap.size, 0, none⟩) (.int .i64 0) (.inl (Nat.le_refl _))).set (p := ⟨w.heap.size, 1, none⟩) (.int .i64 f) (.inl (Nat.le_refl _))).set (p := ⟨w.heap.size, 2, none⟩) (.int .i64 0) (.inl (Nat.le_refl _))
            have hfin : SpaceL B (((wc.setCell ⟨w.heap.size, 0, none⟩ (.int .i64 0)).setCell ⟨w.heap.size, 1, none⟩ (.int .i64 f)).setCell ⟨w.heap.size, 2, none⟩ (.int .i64 0)) G U n (setU u f (f + c) 1) (recs ++ [(false, f, f + c)]) := by
              refine ⟨hBG, hBU, hGU, .slice (some ⟨gg, 0, none⟩) (recs.length + 1) cap1, ⟨?_, ?_, ?_⟩, ?_⟩
              rotate_left 3
              · rw [rrL_app, List.length_append, ← ht.out]; exact l7
              · rw [← ht.out, ← hq'.out]; exact k7
              · rw [← ht.out]; exact u7
              · exact u7.lt
            exact bodyPost_ret (v := fnd 0 f) (by simp [results, Try.results57, go_sem, fnd, p0, p1, p2]) rfl ⟨.inr ⟨f, htake.out, rfl, hfin⟩, hN7, hK7⟩
        · have hn2 : Hid (takeAt b c (i + 1) = none) := by
            show els (takeAt b c i) (hitN c (i + 1) (stN b (i + 1)).2) = none
            rw [hnone.out]
            show hitN c (i + 1) (stN b (i + 1)).2 = none
            unfold hitN
            rw [hrow.out, if_neg (by omega)]
          have hb1 : ((r' : Int) == (c : Int)) = false := by simp; omega
          go_wp2
          go_roundw
          case rel => exact ⟨i + 1, by go_num, by omega, by rw [hrow.out], hn2, hnw, hR⟩
          case measure => simp [intOf]; omega
    · have hin : i = n := by omega
      subst hin
      have hR0 := hR.cell 0
      have hR1 := hR.cell 1
      have hR2 := hR.cell 2
      have f0 := hR.frozen 0
      have f1 := hR.frozen 1
      have f2 := hR.frozen 2
      simp at hR0 hR1 hR2
      have hS3 := ((hR.put 0 (.int .i64 8)).put 1 (.int .i64 0)).put 2 (.int .i64 0)
      have q0 := hS3.cell 0
      have q1 := hS3.cell 1
      have q2 := hS3.cell 2
      simp at q0 q1 q2
      have hq := Lib.hid (And.intro q0 (And.intro q1 q2))
      clear q0 q1 q2 hS3
      go_wp2
      obtain ⟨q0, q1, q2⟩ := hq.out
      have hwl : B ≤ w.heap.size := hBw
      have hN3 : New w (((wr.setCell ⟨w.heap.size, 0, none⟩ (.int .i64 8)).setCell ⟨w.heap.size, 1, none⟩ (.int .i64 0)).setCell ⟨w.heap.size, 2, none⟩ (.int .i64 0)) :=
        ((hnw.set (p := ⟨w.heap.size, 0, none⟩) (Nat.le_refl _) _).set (p := ⟨w.heap.size, 1, none⟩) (Nat.le_refl _) _).set (p := ⟨w.heap.size, 2, none⟩) (Nat.le_refl _) _
      exact bodyPost_ret (v := fnd 8 0) (by simp [results, Try.results57, go_sem, fnd, q0, q1, q2]) rfl ⟨.inl ⟨hnone.out, rfl, hBG, hBU, hGU, log, hSp0.out.new hN3, own_new hlog0.out hN3⟩, hN3.mono hwl, (KeepT.refl w).new hN3⟩
end Go.Proofs.Ythjjchlibbheaaa.space
