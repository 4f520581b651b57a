/-
  Contract of the reference's SpacePlayed.
-/
import Derived.Test.YthjjchlibbheaaaSpacePlay
import Derived.Deep.DeepCutAuto
import Derived.Deep.CutBlock
namespace Go.Proofs.Ythjjchlibbheaaa.space
open Go.ChangeShapes Go.WideShapes Go.ChangeAt Go.RowKit Go.Proofs.Ythjjchlibbheaaa.kit Go.Deep
set_option linter.unusedVariables false

theorem count_ok (S n x : Nat) (u : Nat → Nat) (w : World) (hU : w.rowIs S 3 n (inF u)) (hn : n ≤ 4096) :
    Calls Try.prog 41 #[.slice (some ⟨S, 0, none⟩) n n, .int .i64 x] w fun e w' => e = .returned (.int .i64 (cntU x u n : Nat)) ∧ w = w' := by
  have hU0 := Lib.hid hU
  clear hU
  go_enter Try.func41, Try.ntmps41
  go_wp2
  go_loopw [10, 5] (fun k o wr => ∃ i : Nat, k = .int .i64 i ∧ i ≤ n ∧ o = .int .i64 (cntU x u i : Nat) ∧ w = wr) (fun k _ _ => n - (intOf k).toNat)
  case atStart => exact ⟨0, rfl, by omega, rfl, rfl⟩
  case round =>
    obtain ⟨i, rfl, hi, rfl, rfl⟩ := hrel
    obtain ⟨q, hq⟩ : ∃ q, Hid (q = cntU x u i) := ⟨_, (rfl : _ = _)⟩
    have hqi : q ≤ i := by rw [hq.out]; exact cntU_le x u i
    rw [← hq.out]
    by_cases hlt : i < n
    · obtain ⟨y, hy⟩ : ∃ y, Hid (y = u i) := ⟨_, (rfl : _ = _)⟩
      have d0 : w.cell? ⟨S, i, none⟩ = some (.int .i64 (y : Int)) := by rw [hy.out]; exact hU0.out.cell (by omega)
      by_cases hyx : (y : Int) = (x : Int)
      · have hnx : Hid (cntU x u (i + 1) = q + 1) := by unfold cntU; rw [← hq.out, ← hy.out, if_pos (by omega)]; exact (rfl : _ = _)
        go_wp2
        go_roundw
        case rel => exact ⟨i + 1, by go_num, by omega, intv (by rw [hnx.out]; push_cast; rfl), trivial⟩
        case measure => simp [intOf]; omega
      · have hne : ((y : Int) == (x : Int)) = false := by simp; omega
        have hnx : Hid (cntU x u (i + 1) = q) := by unfold cntU; rw [← hq.out, ← hy.out, if_neg (by omega)]; exact (rfl : _ = _)
        go_wp2
        go_roundw
        case rel => exact ⟨i + 1, by go_num, by omega, intv (by rw [hnx.out]), trivial⟩
        case measure => simp [intOf]; omega
    · have hin : i = n := by omega
      have hqn : Hid (q = cntU x u n) := by rw [hq.out, hin]; exact (rfl : _ = _)
      have hlt2 : ¬ (i : Int) < n := by omega
      clear hin hlt
      go_wp2
      go_ret
      exact ⟨by rw [hqn.out]; rfl, rfl⟩
theorem firstL_apps (c : Nat) : ∀ l m : List (Nat × Nat), firstL c (l ++ m) = els (firstL c l) (firstL c m)
  | [], m => by
    show firstL c m = els none (firstL c m)
    cases firstL c m <;> rfl
  | q :: l, m => by
    show els (lngP c q) (firstL c (l ++ m)) = els (els (lngP c q) (firstL c l)) (firstL c m)
    rw [firstL_apps c l m]
    cases lngP c q <;> rfl
/-- a commit, so far -/
def cmA (u : Nat → Nat) (q : Nat) : Nat → Nat := fun j => if j < q then cmU u j else u j
theorem cmA_zero (u : Nat → Nat) : cmA u 0 = u := by funext j; unfold cmA; rw [if_neg (by omega)]
theorem cmA_at (u : Nat → Nat) (q : Nat) : cmA u q q = u q := by unfold cmA; rw [if_neg (by omega)]
theorem cmA_all (u : Nat → Nat) (n j : Nat) (h : j < n) : cmA u n j = cmU u j := if_pos h
theorem cmA_set (u : Nat → Nat) (q : Nat) : (fun j => if j = q then Value.int .i64 (cmU u q : Nat) else inF (cmA u q) j) = inF (cmA u (q + 1)) := by
  funext j
  unfold inF cmA
  by_cases h : j = q
  · subst h; rw [if_pos rfl, if_pos (by omega)]
  · rw [if_neg h]
    by_cases h2 : j < q
    · rw [if_pos h2, if_pos (by omega)]
    · rw [if_neg h2, if_neg (by omega)]
/-- the state of a play by the reference, ahead of the count -/
def StR (w : World) (fb n i : Nat) (u : Nat → Nat) (a b : Int) (fds : Fnds) (recs : Recs) (o l : Value) (wx : World) : Prop :=
  wx.rowIs w.heap.size 3 n (inF u) ∧ Blk wx fb 85 #[.int .i64 a, .int .i64 b, .int .i64 0] ∧ wx.ownsRow w.heap.size 85 3 o i (fdL fds) ∧ wx.ownsRow w.heap.size 77 3 l recs.length (rrL recs) ∧ New w wx ∧ w.heap.size < fb ∧ o.ownBlock ≠ some fb
section
variable {w wx wy : World} {fb n i : Nat} {u u' : Nat → Nat} {a b : Int} {fds : Fnds} {recs recs' : Recs} {o l l' : Value}
theorem StR.new (h : StR w fb n i u a b fds recs o l wx) (hn : New wx wy) : StR w fb n i u a b fds recs o l wy :=
  ⟨rowIs_new h.1 hn, h.2.1.new hn, own_new h.2.2.1 hn, own_new h.2.2.2.1 hn, h.2.2.2.2.1.next hn, h.2.2.2.2.2⟩
theorem StR.setA (h : StR w fb n i u a b fds recs o l wx) (a' : Int) : StR w fb n i u a' b fds recs o l (wx.setCell ⟨fb, 0, none⟩ (.int .i64 a')) := by
  obtain ⟨h1, h2, h3, h4, h5, h6, h7⟩ := h
  refine ⟨h1.setOther (by simp; omega) _, ?_, ownsRow_setCell_other h3 (a := ⟨fb, 0, none⟩) h7 _, ownsRow_setCell_other h4 (a := ⟨fb, 0, none⟩) (own_ne_blk h4 h2 (by decide)) _, h5.set (p := ⟨fb, 0, none⟩) (by simp; omega) _, h6, h7⟩
  exact h2.put 0 (.int .i64 a')
theorem StR.setB (h : StR w fb n i u a b fds recs o l wx) (b' : Int) : StR w fb n i u a b' fds recs o l (wx.setCell ⟨fb, 1, none⟩ (.int .i64 b')) := by
  obtain ⟨h1, h2, h3, h4, h5, h6, h7⟩ := h
  refine ⟨h1.setOther (by simp; omega) _, ?_, ownsRow_setCell_other h3 (a := ⟨fb, 1, none⟩) h7 _, ownsRow_setCell_other h4 (a := ⟨fb, 1, none⟩) (own_ne_blk h4 h2 (by decide)) _, h5.set (p := ⟨fb, 1, none⟩) (by simp; omega) _, h6, h7⟩
  exact h2.put 1 (.int .i64 b')
theorem StR.row (h : StR w fb n i u a b fds recs o l wx) (hg : wx.grownBy wy (some w.heap.size)) (hU : wy.rowIs w.heap.size 3 n (inF u')) : StR w fb n i u' a b fds recs o l wy := by
  obtain ⟨h1, h2, h3, h4, h5, h6, h7⟩ := h
  exact ⟨hU, h2.grown hg (by simp; omega), h3.kept hg (.inr (own_ne_row h3 h1 (by decide))), h4.kept hg (.inr (own_ne_row h4 h1 (by decide))), Below.grown h5 hg h5.size (fun g hg => by injection hg with hg; omega), h6, h7⟩
theorem StR.log (h : StR w fb n i u a b fds recs o l wx) (hg : wx.grownBy wy l.ownBlock) (hl : wy.ownsRow w.heap.size 77 3 l' recs'.length (rrL recs')) : StR w fb n i u a b fds recs' o l' wy := by
  obtain ⟨h1, h2, h3, h4, h5, h6, h7⟩ := h
  have hol : o.ownBlock = none ∨ o.ownBlock ≠ l.ownBlock := by
    by_cases hn : o.ownBlock = none
    · exact .inl hn
    · exact .inr (own_ne h3 h4 (by decide) hn)
  exact ⟨rowIs_grown h1 hg (own_ne_row h4 h1 (by decide)), h2.grown hg (own_ne_blk h4 h2 (by decide)), h3.kept hg hol, hl, Below.grown h5 hg h5.size (fun g hg => (h4.lt g hg).1), h6, h7⟩
end
set_option maxHeartbeats 1000000 in
set_option maxRecDepth 100000 in
theorem SpacePlayed_ok (n m c : Nat) (A : Option Addr) (K F C : Nat → Int) (w : World) (h1 : 1 ≤ n) (hn : n ≤ 4096) (hm : m ≤ 300) (hR : RdD w A m K F C) :
    Calls Try.prog 17 #[.int .i64 n, .slice A m c] w fun e w' => ∃ v1 v2, e = .returned (.tuple #[v1, v2, .int .i64 0]) ∧ w'.ownsRow w.heap.size 85 3 v1 (plS n K F C m).2.2.length (fdL (plS n K F C m).2.2) ∧ w'.ownsRow w.heap.size 77 3 v2 (plS n K F C m).2.1.length (rrL (plS n K F C m).2.1) ∧ New w w' := by
  have hR0 := Lib.hid hR
  clear hR
  obtain ⟨S, hS⟩ : ∃ S, Hid (S = plS n K F C) := ⟨_, (rfl : _ = _)⟩
  rw [← hS.out]
  have hle : Hid (∀ i j, (S i).1 j ≤ 3) := fun i j => by rw [hS.out]; exact pl_le n K F C i j
  have hrc : Hid (∀ i, (S i).2.1.length ≤ 4097 * i) := fun i => by rw [hS.out]; exact pl_recs n K F C hn i
  have hfd : Hid (∀ i, (S i).2.2.length = i) := fun i => by rw [hS.out]; exact pl_fnds n K F C i
  have hst : Hid (∀ i, (S (i + 1)).1 = (stepS n (S i).1 (S i).2.1 (K i) (F i) (C i)).2.2.1 ∧ (S (i + 1)).2.1 = (stepS n (S i).1 (S i).2.1 (K i) (F i) (C i)).2.2.2 ∧
      (S (i + 1)).2.2 = (S i).2.2 ++ [((stepS n (S i).1 (S i).2.1 (K i) (F i) (C i)).1, (stepS n (S i).1 (S i).2.1 (K i) (F i) (C i)).2.1, cntU 0 (stepS n (S i).1 (S i).2.1 (K i) (F i) (C i)).2.2.1 n)]) := fun i => by rw [hS.out]; exact ⟨rfl, rfl, rfl⟩
  have hS0 : Hid (S 0 = (fun _ => 0, [], [])) := by rw [hS.out]; exact (rfl : _ = _)
  have hmk := run_make_row' (P := Try.prog) 70 3 (.int .i64 0) 8 Try.underlying70 infoInt rfl .i64 .i64 n (by omega) (by omega)
  obtain ⟨i0, hi0, hz0, hz1, hz2⟩ := info_parts infoFound
  obtain ⟨j0, hj0, hy0, hy1, hy2⟩ := info_parts infoRec
  have h1' : ¬ (n : Int) < 1 := by omega
  have h2' : ¬ 4096 < (n : Int) := by omega
  have hm3 : ¬ (300 : Int) < (m : Int) := by omega
  have hm4 : (m : Int) ≤ 300 := by omega
  go_enter Try.func17, Try.ntmps17
  go_wp2
  go_loopw [32, 8, 9] (fun k o l wr => ∃ i : Nat, k = .int .i64 i ∧ i ≤ m ∧ wr.rowIs w.heap.size 3 n (inF (S i).1) ∧ wr.ownsRow w.heap.size 85 3 o i (fdL (S i).2.2) ∧ wr.ownsRow w.heap.size 77 3 l (S i).2.1.length (rrL (S i).2.1) ∧ New w wr) (fun k _ _ _ => m - (intOf k).toNat)
  case atStart =>
    refine ⟨0, rfl, by omega, ?_, ?_, ?_, (New.refl w).alloc _⟩
    · rw [hS0.out]; exact (World.rowIs_made w (.int .i64 0) n 3).congr fun j hj => by simp [inF]
    · rw [hS0.out]; exact World.ownsRow_nil _ _ _ _
    · rw [hS0.out]; exact World.ownsRow_nil _ _ _ _
  case round =>
    obtain ⟨i, rfl, hi, hU, hown, hlog, hnw⟩ := hrel
    by_cases hlt : i < m
    · obtain ⟨b, off, rfl, hb, hcs⟩ := hR0.out.2 (by omega)
      obtain ⟨k, hk⟩ : ∃ k, Hid (k = K i) := ⟨_, (rfl : _ = _)⟩
      obtain ⟨f, hf⟩ : ∃ f, Hid (f = F i) := ⟨_, (rfl : _ = _)⟩
      obtain ⟨cc, hcc⟩ : ∃ cc, Hid (cc = C i) := ⟨_, (rfl : _ = _)⟩
      have c0 := (hnw.cell (p := ⟨b, off + i * 3, none⟩) hb).trans (hcs i hlt).1
      have c1 := (hnw.cell (p := ⟨b, off + i * 3 + 1, none⟩) hb).trans (hcs i hlt).2.1
      have c2 := (hnw.cell (p := ⟨b, off + i * 3 + 2, none⟩) hb).trans (hcs i hlt).2.2
      rw [← hk.out] at c0
      rw [← hf.out] at c1
      rw [← hcc.out] at c2
      obtain ⟨s, hs⟩ : ∃ s, Hid (s = stepS n (S i).1 (S i).2.1 k f cc) := ⟨_, (rfl : _ = _)⟩
      obtain ⟨t1, t2, t3⟩ := hst.out i
      rw [← hk.out, ← hf.out, ← hcc.out, ← hs.out] at t1 t2 t3
      have tt := Lib.hid (And.intro t1 (And.intro t2 t3))
      have hrl : (S i).2.1.length ≤ 10000000 := by have := hrc.out i; omega
      clear t1 t2 t3 hcs
      go_upto_block 2 with fail
      obtain ⟨W2, hW2⟩ : ∃ W2, W2 = (wr.alloc (.cells #[.int .i64 k, .int .i64 f, .int .i64 cc] 83)).alloc (.cells #[.int .i64 0, .int .i64 0, .int .i64 0] 85) := ⟨_, rfl⟩
      rw [← hW2]
      have hS2 : Hid (StR w (wr.heap.size + 1) n i (S i).1 0 0 (S i).2.2 (S i).2.1 u8 u9 W2) := by
        have hno : u8.ownBlock ≠ some (wr.heap.size + 1) := fun he => by have := (hown.lt _ he).2; omega
        have hf := Blk.fresh (wr.alloc (.cells #[.int .i64 k, .int .i64 f, .int .i64 cc] 83)) 85 #[.int .i64 0, .int .i64 0, .int .i64 0]
        rw [hW2]
        exact ⟨(hU.alloc _).alloc _, by simpa using hf, (hown.alloc _).alloc _, (hlog.alloc _).alloc _, (hnw.alloc _).alloc _, by have := hU.lt; omega, hno⟩
      have bD : Blk W2 wr.heap.size 83 #[.int .i64 k, .int .i64 f, .int .i64 cc] := by rw [hW2]; exact (Blk.fresh wr 83 _).alloc _
      have hwr : w.heap.size < wr.heap.size := hU.lt
      have hsz2 : wr.heap.size + 1 < W2.heap.size := by rw [hW2]; simp
      clear hW2 c0 c1 c2 hU hown hlog hnw
      have hu0 : Hid (∀ j, (S i).1 j ≤ 3) := hle.out i
      obtain ⟨u, hu⟩ : ∃ u, Hid (u = (S i).1) := ⟨_, (rfl : _ = _)⟩
      obtain ⟨recs, hrecs⟩ : ∃ recs, Hid (recs = (S i).2.1) := ⟨_, (rfl : _ = _)⟩
      obtain ⟨fds, hfds⟩ : ∃ fds, Hid (fds = (S i).2.2) := ⟨_, (rfl : _ = _)⟩
      rw [← hu.out, ← hrecs.out] at hs
      rw [← hu.out, ← hrecs.out, ← hfds.out] at hS2
      rw [← hrecs.out] at hrl
      rw [← hu.out] at hu0
      go_cut [9] (fun l wx => StR w (wr.heap.size + 1) n i s.2.2.1 s.1 s.2.1 fds s.2.2.2 u8 l wx)
      case first =>
        obtain ⟨wO, hwO⟩ : ∃ wO, wO = wr := ⟨_, rfl⟩
        subst hwO
        obtain ⟨l0, hl0⟩ : ∃ l0, l0 = u9 := ⟨_, rfl⟩
        subst hl0
        have d1 := bD.cell 1
        have d2 := bD.cell 2
        simp at d1 d2
        have x0 := hS2.out.2.1.cell 0
        have x1 := hS2.out.2.1.cell 1
        have y0 := hS2.out.2.1.frozen 0
        have y1 := hS2.out.2.1.frozen 1
        simp at x0 x1
        by_cases k1 : k = 1
        · --A1
          subst k1
          by_cases hcb : cc < 1 ∨ (n : Int) < cc
          · have e : Hid (s = (2, 0, u, recs)) := by
              rw [hs.out]; unfold stepS tkS; rw [if_pos rfl, if_pos hcb]; exact (rfl : _ = _)
            go_wp2
            all_goals go_meet
            all_goals rw [e.out]
            all_goals exact (hS2.out.setA 8).setA 2
          · obtain ⟨c, rfl⟩ : ∃ c : Nat, cc = (c : Int) := ⟨cc.toNat, by omega⟩
            obtain ⟨L, hL⟩ : ∃ L, Hid (L = listN (fun i => decide (u i = 0)) n) := ⟨_, (rfl : _ = _)⟩
            obtain ⟨N, hNL⟩ : ∃ N, Hid (L.length = N) := ⟨_, (rfl : _ = _)⟩
            have hN5 : N ≤ 4097 := by rw [← hNL.out, hL.out]; exact Nat.le_trans (listN_len _ _) (by omega)
            have hruns : Hid (∀ p ∈ L, p.1 < p.2 ∧ p.2 ≤ n) := by rw [hL.out]; exact fun p hp => ⟨(list_true _ n p hp).1, (list_true _ n p hp).2.1⟩
            have e : Hid (s = tkR u recs c (firstL c L)) := by
              rw [hs.out, hL.out, ← take_first _ c (by omega)]; unfold stepS tkS; rw [if_pos rfl, if_neg hcb, Int.toNat_natCast]; exact (rfl : _ = _)
            have c1 : 1 ≤ c := by omega
            have c2 : c ≤ n := by omega
            have h1 : ¬ (c : Int) < 1 := by omega
            have h2 : ¬ (n : Int) < (c : Int) := by omega
            clear hcb
            go_upto_region 18 with fail
            obtain ⟨W3, hW3⟩ : ∃ W3, W3 = W2.setCell ⟨wO.heap.size + 1, 0, none⟩ (.int .i64 8) := ⟨_, rfl⟩
            rw [← hW3]
            have hS3 : StR w (wO.heap.size + 1) n i u 8 0 fds recs u8 l0 W3 := by rw [hW3]; exact hS2.out.setA 8
            have b3 : Blk W3 wO.heap.size 83 #[.int .i64 1, .int .i64 f, .int .i64 c] := by rw [hW3]; exact bD.far (by simp) _
            clear hW3 d1 d2 x0 x1 y0 y1
            go_wp2_with fail
            refine (stretches_ok w.heap.size n 0 u W3 hS3.1 hn).mono ?_
            rw [← hL.out, hNL.out]
            rintro e4 w4 ⟨v, rfl, ho, hn4⟩
            have hS4 := Lib.hid (hS3.new hn4)
            have b4 := b3.new hn4
            obtain ⟨A2, c2, rfl, hc1, hc2, hdrop⟩ := own_open ho
            have hA2 := Lib.hid hdrop.1
            have ho1 := Lib.hid ho
            clear hdrop ho hS3 b3
            go_wp2
            go_loopw [55, 9] (fun k l wr' => ∃ q : Nat, k = .int .i64 q ∧ l = l0 ∧ q ≤ N ∧ Hid (firstL c (L.take q) = none) ∧ New w4 wr') (fun k _ _ => N - (intOf k).toNat)
            case atStart => exact ⟨0, rfl, rfl, by omega, (rfl : _ = _), New.refl w4⟩
            case round =>
              obtain ⟨q, rfl, rfl, hq, hfirst, hnw⟩ := hrel
              by_cases hlt : q < N
              · have hiL : q < L.length := by rw [hNL.out]; exact hlt
                obtain ⟨g2, rfl, hg2, hg2'⟩ := hA2.out (by omega)
                obtain ⟨q1, q2⟩ := rgL_at L q hiL
                obtain ⟨p, hp⟩ : ∃ p, Hid (p = L[q]) := ⟨_, Lib.hid rfl⟩
                have hpm : p ∈ L := by rw [hp.out]; exact List.getElem_mem hiL
                have htk : Hid (L.take (q + 1) = L.take q ++ [p]) := by rw [hp.out]; exact List.take_succ_eq_append_getElem hiL
                rw [← hp.out] at q1 q2
                obtain ⟨g, t⟩ := p
                obtain ⟨hft, htn⟩ := hruns.out _ hpm
                simp only at q1 q2 hft htn
                have hv := own_new ho1.out hnw
                have c0 := hv.cells (g := g2) rfl (q * 2) _ q1
                have c1 := hv.cells (g := g2) rfl (q * 2 + 1) _ q2
                rw [add_cell] at c0 c1
                simp only [Nat.zero_add] at c0 c1
                have hwr4 : wO.heap.size + 1 < w4.heap.size := hS4.out.2.1.lt
                have hfs : Hid (firstL c (L.take (q + 1)) = lngP c (g, t)) := by rw [htk.out, firstL_app, hfirst.out]; exact (rfl : _ = _)
                obtain ⟨d, hd⟩ : ∃ d, Hid (d = t - g) := ⟨_, (rfl : _ = _)⟩
                have hds : d ≤ 4096 := by rw [hd.out]; omega
                have e1 : (t : Int) - (g : Int) = (d : Int) := by rw [hd.out]; omega
                clear q1 q2 hpm hp hv
                go_upto_region 21 with fail
                obtain ⟨W5, hW5⟩ : ∃ W5, W5 = wr.alloc (.cells #[.int .i64 g, .int .i64 t] 75) := ⟨_, rfl⟩
                rw [← hW5]
                have bq : Blk W5 wr.heap.size 75 #[.int .i64 g, .int .i64 t] := by rw [hW5]; exact Blk.fresh _ _ _
                have hN5' : New wr W5 := by rw [hW5]; exact (New.refl _).alloc _
                clear hW5 c0 c1
                have hS5 := Lib.hid ((hS4.out.new hnw).new hN5')
                have b5 := (b4.new hnw).new hN5'
                have r0 := bq.cell 0
                have r1 := bq.cell 1
                have r2 := b5.cell 2
                simp at r0 r1 r2
                by_cases hge : c ≤ d
                · have hf1 : Hid (firstL c L = some g) := by
                    have h3 : firstL c (L.take (q + 1)) = some g := by rw [hfs.out, lng_yes (by rw [← hd.out]; exact hge)]
                    have h4 : L = L.take (q + 1) ++ L.drop (q + 1) := (List.take_append_drop _ _).symm
                    rw [h4, firstL_apps, h3]; exact (rfl : _ = _)
                  have hge' : (c : Int) ≤ (d : Int) := by omega
                  have x0 := hS5.out.2.1.cell 0
                  have x1 := hS5.out.2.1.cell 1
                  have y0 := hS5.out.2.1.frozen 0
                  have y1 := hS5.out.2.1.frozen 1
                  simp at x0 x1
                  have hgt : g + c ≤ n := by have := hd.out; omega
                  have hwrO : wO.heap.size + 1 < wr.heap.size := by have := hnw.size; omega
                  clear hge
                  go_upto_region 24 with fail
                  obtain ⟨W6, hW6⟩ : ∃ W6, W6 = (W5.setCell ⟨wO.heap.size + 1, 0, none⟩ (.int .i64 0)).setCell ⟨wO.heap.size + 1, 1, none⟩ (.int .i64 g) := ⟨_, rfl⟩
                  rw [← hW6]
                  have hS6 : StR w (wO.heap.size + 1) n i u 0 g fds recs u8 u9 W6 := by rw [hW6]; exact (hS5.out.setA 0).setB g
                  have bq6 : Blk W6 wr.heap.size 75 #[.int .i64 g, .int .i64 t] := by rw [hW6]; exact (bq.far (by simp; omega) _).far (by simp; omega) _
                  have b6 : Blk W6 wO.heap.size 83 #[.int .i64 1, .int .i64 f, .int .i64 c] := by rw [hW6]; exact (b5.far (by simp) _).far (by simp) _
                  clear hW6 r0 r1 r2 x0 x1 y0 y1 b5 bq
                  have r0 := bq6.cell 0
                  have r2 := b6.cell 2
                  simp at r0 r2
                  obtain ⟨t2, ht2⟩ : ∃ t2, Hid (t2 = g + c) := ⟨_, (rfl : _ = _)⟩
                  have e2 : (g : Int) + (c : Int) = (t2 : Int) := by rw [ht2.out]; push_cast; rfl
                  go_wp2_with fail
                  refine (put_ok w.heap.size n g t2 1 u W6 hS6.1 (by rw [ht2.out]; omega) (by rw [ht2.out]; exact hgt) hn).mono ?_
                  rintro e7 w7 ⟨rfl, hU7, hg7⟩
                  have hS7 : StR w (wO.heap.size + 1) n i (setU u g t2 1) 0 g fds recs u8 u9 w7 := hS6.row hg7 hU7
                  have b7 := b6.grown hg7 (by simp; omega)
                  have bq7 := bq6.grown hg7 (by simp; omega)
                  clear r0 r2 hU7 hg7 hS6 b6 bq6
                  have r0 := bq7.cell 0
                  have r2 := b7.cell 2
                  simp at r0 r2
                  have hl7 := hS7.2.2.2.1
                  have hnw7 := hS7.2.2.2.2.1
                  have hS8 := Lib.hid hS7
                  clear hS7
                  go_wp2_with (at_builtin; refine wpList_append_own _ rfl _ _ 22 rfl w.heap.size 77 j0 _ 3 24 Try.underlying22 hj0 hy0 hy1 hy2 rfl (by decide) _ recs.length (rrL recs) rfl (hl7.alloc _) ⟨w7.heap.size, 0, none⟩ 1 1 [.bool false, .int .i64 g, .int .i64 t2] rfl rfl (World.news_of_block (cs := #[.bool _, .int .i64 _, .int .i64 _]) (t := 77) (fr := (0, 0)) (heap_alloc_new w7 _)) (by simp [Value.oneCell']) (by unfold maxLen; omega) (by omega) (by have := hnw7.size; simp; omega) ?_; intro v8 w8 hown8 hgrow hnil)
                  have hS9 : StR w (wO.heap.size + 1) n i (setU u g t2 1) 0 g fds (recs ++ [(false, g, t2)]) u8 v8 w8 := (hS8.out.new ((New.refl w7).alloc _)).log hgrow (by rw [rrL_app, List.length_append]; exact hown8)
                  go_meet
                  rw [e.out, hf1.out]
                  show StR w (wO.heap.size + 1) n i (setU u g (g + c) 1) 0 g fds (recs ++ [(false, g, g + c)]) u8 v8 w8
                  rw [← ht2.out]
                  exact hS9
                · have hf1 : Hid (firstL c (L.take (q + 1)) = none) := by rw [hfs.out, lng_no (by rw [← hd.out]; exact hge)]; exact (rfl : _ = _)
                  have hge' : ¬ (c : Int) ≤ (d : Int) := by omega
                  clear hge
                  go_wp2
                  go_roundw
                  case rel => exact ⟨q + 1, by go_num, rfl, by omega, hf1, hnw.next hN5'⟩
                  case measure => simp [intOf]; omega
              · have hqN : q = N := by omega
                have hz : Hid (firstL c L = none) := by
                  have := hfirst.out
                  rwa [hqN, ← hNL.out, List.take_length] at this
                have hS5 := Lib.hid (hS4.out.new hnw)
                clear hqN
                go_wp2
                go_meet
                rw [e.out, hz.out]
                exact hS5.out
          --A1e
        · have hk1 : (k == 1) = false := by simp; omega
          by_cases k2 : k = 2
          · --A2
            subst k2
            clear hk1
            by_cases hg : giveP n f cc
            · obtain ⟨g1, g2, g3, g4⟩ := id hg
              obtain ⟨fN, rfl⟩ : ∃ fN : Nat, f = (fN : Int) := ⟨f.toNat, by omega⟩
              obtain ⟨c, rfl⟩ : ∃ c : Nat, cc = (c : Int) := ⟨cc.toNat, by omega⟩
              obtain ⟨r, hr⟩ : ∃ r, Hid (r = allU u fN 1 c) := ⟨_, (rfl : _ = _)⟩
              have e : Hid (s = (if r = true then (0, 0, setU u fN (fN + c) 2, recs) else (6, 0, u, recs))) := by
                rw [hs.out, hr.out]; unfold stepS gvS; rw [if_neg k1, if_pos rfl, if_pos hg, Int.toNat_natCast, Int.toNat_natCast]; exact (rfl : _ = _)
              obtain ⟨t, ht⟩ : ∃ t, Hid (t = fN + c) := ⟨_, (rfl : _ = _)⟩
              have htn : t ≤ n := by rw [ht.out]; omega
              have hft : fN ≤ t := by rw [ht.out]; omega
              have e2 : (fN : Int) + (c : Int) = (t : Int) := by rw [ht.out]; push_cast; rfl
              obtain ⟨d, hd⟩ : ∃ d, Hid (d = n - fN) := ⟨_, (rfl : _ = _)⟩
              have e1 : (n : Int) - (fN : Int) = (d : Int) := by rw [hd.out]; omega
              have hdc : (c : Int) ≤ (d : Int) := by rw [hd.out]; omega
              have g5 : ¬ (fN : Int) < 0 := by omega
              have g6 : ¬ (n : Int) ≤ (fN : Int) := by omega
              have g7 : ¬ (c : Int) < 1 := by omega
              have g8 : ¬ (d : Int) < (c : Int) := by omega
              clear hg g1 g2 g3 g4 k1
              go_upto_region 30 with fail
              go_wp2_with fail
              refine (is_ok w.heap.size n fN t 1 u W2 hS2.out.1 hft htn hn).mono ?_
              rw [show t - fN = c by rw [ht.out]; omega, ← hr.out]
              rintro e3 w3 ⟨rfl, hn3⟩
              have hS3 := Lib.hid (hS2.out.new hn3)
              have b3 := bD.new hn3
              clear d1 d2 x0 x1 y0 y1
              have d1 := b3.cell 1
              have d2 := b3.cell 2
              have x0 := hS3.out.2.1.cell 0
              have y0 := hS3.out.2.1.frozen 0
              simp at d1 d2 x0
              cases r with
              | false =>
                go_wp2
                go_meet
                rw [e.out]
                exact hS3.out.setA 6
              | true =>
                go_wp2_with fail
                refine (put_ok w.heap.size n fN t 2 u w3 hS3.out.1 hft htn hn).mono ?_
                rintro e7 w7 ⟨rfl, hU7, hg7⟩
                have hS7 : Hid (StR w (wO.heap.size + 1) n i (setU u fN t 2) 0 0 fds recs u8 l0 w7) := hS3.out.row hg7 hU7
                clear hU7 hg7
                go_wp2
                go_meet
                rw [e.out]
                show StR w (wO.heap.size + 1) n i (setU u fN (fN + c) 2) 0 0 fds recs u8 l0 w7
                rw [← ht.out]
                exact hS7.out
            · have e : Hid (s = (2, 0, u, recs)) := by
                rw [hs.out]; unfold stepS gvS; rw [if_neg k1, if_pos rfl, if_neg hg]; exact (rfl : _ = _)
              by_cases g1 : f < 0
              · clear hg k1
                go_wp2
                go_meet
                rw [e.out]
                exact hS2.out.setA 2
              · obtain ⟨fN, rfl⟩ : ∃ fN : Nat, f = (fN : Int) := ⟨f.toNat, by omega⟩
                by_cases g2 : (n : Int) ≤ (fN : Int)
                · clear hg k1
                  go_wp2
                  go_meet
                  rw [e.out]
                  exact hS2.out.setA 2
                · by_cases g3 : cc < 1
                  · clear hg k1
                    go_wp2
                    go_meet
                    rw [e.out]
                    exact hS2.out.setA 2
                  · obtain ⟨d, hd⟩ : ∃ d, Hid (d = n - fN) := ⟨_, (rfl : _ = _)⟩
                    have e1 : (n : Int) - (fN : Int) = (d : Int) := by rw [hd.out]; omega
                    have g4 : (d : Int) < cc := by rw [hd.out]; unfold giveP at hg; omega
                    clear hg k1
                    go_wp2
                    go_meet
                    rw [e.out]
                    exact hS2.out.setA 2
            --A2e
          · have hk2 : (k == 2) = false := by simp; omega
            by_cases k3 : k = 3
            · subst k3
              clear hk1 hk2
              obtain ⟨L, hL⟩ : ∃ L, Hid (L = listN (fun i => decide (u i = 3)) n) := ⟨_, (rfl : _ = _)⟩
              obtain ⟨N, hNL⟩ : ∃ N, Hid (L.length = N) := ⟨_, (rfl : _ = _)⟩
              have hN5 : N ≤ 4097 := by rw [← hNL.out, hL.out]; exact Nat.le_trans (listN_len _ _) (by omega)
              have e : Hid (s = (0, 0, cmU u, recs ++ rrM L)) := by
                rw [hs.out, hL.out]; unfold stepS; rw [if_neg k1, if_neg k2, if_pos rfl]; exact (rfl : _ = _)
              clear k1 k2
              go_upto_region 34 with fail
              go_wp2_with fail
              refine (stretches_ok w.heap.size n 3 u W2 hS2.out.1 hn).mono ?_
              rw [← hL.out, hNL.out]
              rintro e4 w4 ⟨v, rfl, ho, hn4⟩
              have hS4 := Lib.hid (hS2.out.new hn4)
              obtain ⟨A2, c2, rfl, hc1, hc2, hdrop⟩ := own_open ho
              have hA2 := Lib.hid hdrop.1
              have ho1 := Lib.hid ho
              clear hdrop ho d1 d2 x0 x1 y0 y1
              go_wp2
              go_loopw [144, 9] (fun k l wr' => ∃ q : Nat, k = .int .i64 q ∧ q ≤ N ∧ StR w (wO.heap.size + 1) n i u 0 0 fds (recs ++ rrM (L.take q)) u8 l wr' ∧ wr'.ownsRow W2.heap.size 75 2 (.slice A2 N c2) N (rgL L) ∧ w4.heap.size ≤ wr'.heap.size) (fun k _ _ => N - (intOf k).toNat)
              case atStart => exact ⟨0, rfl, by omega, by simpa [rrM] using hS4.out, ho1.out, Nat.le_refl _⟩
              case round =>
                obtain ⟨q, rfl, hq, hS5', hv, hsz⟩ := hrel
                have hS5 := Lib.hid hS5'
                clear hS5'
                by_cases hlt : q < N
                · have hiL : q < L.length := by rw [hNL.out]; exact hlt
                  obtain ⟨g2, rfl, hg2, hg2'⟩ := hA2.out (by omega)
                  obtain ⟨q1, q2⟩ := rgL_at L q hiL
                  obtain ⟨p, hp⟩ : ∃ p, Hid (p = L[q]) := ⟨_, Lib.hid rfl⟩
                  have htk : Hid (L.take (q + 1) = L.take q ++ [p]) := by rw [hp.out]; exact List.take_succ_eq_append_getElem hiL
                  rw [← hp.out] at q1 q2
                  obtain ⟨g, t⟩ := p
                  simp only at q1 q2
                  have c0 := hv.cells (g := g2) rfl (q * 2) _ q1
                  have c1 := hv.cells (g := g2) rfl (q * 2 + 1) _ q2
                  rw [add_cell] at c0 c1
                  simp only [Nat.zero_add] at c0 c1
                  obtain ⟨R1, hR1⟩ : ∃ R1, Hid (R1 = recs ++ rrM (L.take q)) := ⟨_, (rfl : _ = _)⟩
                  have hR2 : Hid (recs ++ rrM (L.take (q + 1)) = R1 ++ [(true, g, t)]) := by
                    rw [hR1.out, htk.out]
                    show _ = _
                    simp [rrM]
                  have hRl : R1.length ≤ recs.length + q := by
                    rw [hR1.out, List.length_append]
                    have : (rrM (L.take q)).length ≤ q := by unfold rrM; rw [List.length_map]; exact List.length_take_le _ _
                    omega
                  rw [← hR1.out] at hS5
                  clear q1 q2 hp
                  go_upto_region 37 with fail
                  obtain ⟨W5, hW5⟩ : ∃ W5, W5 = wr.alloc (.cells #[.int .i64 g, .int .i64 t] 75) := ⟨_, rfl⟩
                  rw [← hW5]
                  have bq : Blk W5 wr.heap.size 75 #[.int .i64 g, .int .i64 t] := by rw [hW5]; exact Blk.fresh _ _ _
                  have hN5' : New wr W5 := by rw [hW5]; exact (New.refl _).alloc _
                  clear hW5 c0 c1
                  have hS6 := Lib.hid (hS5.out.new hN5')
                  have hv6 := own_new hv hN5'
                  have r0 := bq.cell 0
                  have r1 := bq.cell 1
                  simp at r0 r1
                  have hl7 := hS6.out.2.2.2.1
                  have hnw7 := hS6.out.2.2.2.2.1
                  have hs6 := hN5'.size
                  go_wp2_with (at_builtin; refine wpList_append_own _ rfl _ _ 22 rfl w.heap.size 77 j0 _ 3 24 Try.underlying22 hj0 hy0 hy1 hy2 rfl (by decide) _ R1.length (rrL R1) rfl (hl7.alloc _) ⟨W5.heap.size, 0, none⟩ 1 1 [.bool true, .int .i64 g, .int .i64 t] rfl rfl (World.news_of_block (cs := #[.bool _, .int .i64 _, .int .i64 _]) (t := 77) (fr := (0, 0)) (heap_alloc_new W5 _)) (by simp [Value.oneCell']) (by unfold maxLen; omega) (by omega) (by have := hnw7.size; simp; omega) ?_; intro v8 w8 hown8 hgrow hnil)
                  have hvl : (Value.slice (some ⟨g2, 0, none⟩) N c2).ownBlock ≠ u9.ownBlock := own_ne hv6 hl7 (by decide) (by simp [Value.ownBlock])
                  have hv8 := Lib.hid ((hv6.alloc (.cells #[.bool true, .int .i64 g, .int .i64 t] 77)).kept hgrow (.inr hvl))
                  have hs8 := hgrow.size
                  have hS9 : Hid (StR w (wO.heap.size + 1) n i u 0 0 fds (R1 ++ [(true, g, t)]) u8 v8 w8) := (hS6.out.new ((New.refl W5).alloc _)).log hgrow (by rw [rrL_app, List.length_append]; exact hown8)
                  clear hgrow hnil hown8 hl7 hv hv6 r0 r1
                  go_wp2
                  go_roundw
                  case rel => exact ⟨q + 1, by go_num, by omega, by rw [hR2.out]; exact hS9.out, hv8.out, by simp at hs8; omega⟩
                  case measure => simp [intOf]; omega
                · have hqN : Hid (L.take q = L) := by
                    have : q = N := by omega
                    rw [this, ← hNL.out, List.take_length]; exact (rfl : _ = _)
                  have hS6 : Hid (StR w (wO.heap.size + 1) n i u 0 0 fds (recs ++ rrM L) u8 u9 wr) := by have := hS5.out; rw [hqN.out] at this; exact this
                  have hlt2 : ¬ (q : Int) < N := by omega
                  clear hS5 hv hlt hqN
                  obtain ⟨W6, hW6⟩ : ∃ W6, W6 = wr := ⟨_, rfl⟩
                  subst hW6
                  obtain ⟨l6, hl6⟩ : ∃ l6, l6 = u9 := ⟨_, rfl⟩
                  subst hl6
                  go_wp2
                  go_loopw [156] (fun k wr' => ∃ q : Nat, k = .int .i64 q ∧ q ≤ n ∧ StR w (wO.heap.size + 1) n i (cmA u q) 0 0 fds (recs ++ rrM L) u8 l6 wr') (fun k _ => n - (intOf k).toNat)
                  case atStart => exact ⟨0, rfl, by omega, by rw [cmA_zero]; exact hS6.out⟩
                  case round =>
                    obtain ⟨q, rfl, hq, hS7'⟩ := hrel
                    have hS7 := Lib.hid hS7'
                    clear hS7'
                    by_cases hql : q < n
                    · obtain ⟨y, hy⟩ : ∃ y, Hid (y = u q) := ⟨_, (rfl : _ = _)⟩
                      have d0 : wr.cell? ⟨w.heap.size, q, none⟩ = some (.int .i64 (y : Int)) := by
                        rw [hS7.out.1.cell hql, hy.out]; unfold inF; rw [cmA_at]
                      have f0 := hS7.out.1.frozen q
                      have hyl : y ≤ 3 := by rw [hy.out]; exact hu0.out q
                      have hi1 : (q : Int) < (n : Int) := by omega
                      have hwl : w.heap.size < wr.heap.size := hS7.out.1.lt
                      have hset : ∀ (W8 : World) (z : Nat), Hid (z = cmU u q) → New wr W8 → StR w (wO.heap.size + 1) n i (cmA u (q + 1)) 0 0 fds (recs ++ rrM L) u8 l6 (W8.setCell ⟨w.heap.size, q, none⟩ (.int .i64 (z : Nat))) := fun W8 z hz hn8 => by
                        have h8 := hS7.out.new hn8
                        refine h8.row (grownBy_set W8 w.heap.size q _) ?_
                        rw [hz.out, ← cmA_set u q]
                        exact h8.1.set q _
                      have hset1 := Lib.hid hset
                      clear hset
                      have h4 : y = 0 ∨ y = 1 ∨ y = 2 ∨ y = 3 := by omega
                      rcases h4 with rfl | rfl | rfl | rfl
                      · have hz : Hid (0 = cmU u q) := by unfold cmU; rw [← hy.out]; exact (rfl : _ = _)
                        go_wp2
                        go_roundw
                        case rel => exact ⟨q + 1, by go_num, by omega, (hset1.out wr 0 hz (New.refl wr)).new ((New.refl _).alloc _)⟩
                        case measure => simp [intOf]; omega
                      · have hz : Hid (1 = cmU u q) := by unfold cmU; rw [← hy.out]; exact (rfl : _ = _)
                        go_wp2
                        go_roundw
                        case rel => exact ⟨q + 1, by go_num, by omega, (hset1.out wr 1 hz (New.refl wr)).new ((New.refl _).alloc _)⟩
                        case measure => simp [intOf]; omega
                      · have hz : Hid (3 = cmU u q) := by unfold cmU; rw [← hy.out]; exact (rfl : _ = _)
                        go_wp2
                        go_roundw
                        case rel => exact ⟨q + 1, by go_num, by omega, (hset1.out wr 3 hz (New.refl wr)).new ((New.refl _).alloc _)⟩
                        case measure => simp [intOf]; omega
                      · have hz : Hid (0 = cmU u q) := by unfold cmU; rw [← hy.out]; exact (rfl : _ = _)
                        go_wp2
                        go_roundw
                        case rel => exact ⟨q + 1, by go_num, by omega, (hset1.out wr 0 hz (New.refl wr)).new ((New.refl _).alloc _)⟩
                        case measure => simp [intOf]; omega
                    · have hS8 : Hid (StR w (wO.heap.size + 1) n i (cmU u) 0 0 fds (recs ++ rrM L) u8 l6 wr) := by
                        have hqn : q = n := by omega
                        obtain ⟨z1, z2⟩ := hS7.out
                        exact ⟨z1.congr (fun j hj => by unfold inF; rw [hqn, cmA_all u n j hj]), z2⟩
                      have hlt3 : ¬ (q : Int) < n := by omega
                      clear hS7 hql
                      go_wp2
                      go_meet
                      rw [e.out]
                      exact hS8.out
            · have hk3 : (k == 3) = false := by simp; omega
              have e : Hid (s = (3, 0, u, recs)) := by
                rw [hs.out]; unfold stepS; rw [if_neg k1, if_neg k2, if_neg k3]; exact (rfl : _ = _)
              go_wp2
              go_meet
              rw [e.out]
              exact hS2.out.setA 3
      case rest =>
        have hS5 := Lib.hid hcut
        have hno := hcut.2.2.2.2.2.2
        have x2 := hcut.2.1.cell 2
        have y2 := hcut.2.1.frozen 2
        simp at x2
        obtain ⟨W3, hW3⟩ : ∃ W3, W3 = wc := ⟨_, rfl⟩
        subst hW3
        clear hcut hS2 bD
        go_upto_region 44 with fail
        go_wp2_with fail
        refine (count_ok w.heap.size n 0 s.2.2.1 W3 hS5.out.1 hn).mono ?_
        obtain ⟨q, hq⟩ : ∃ q, Hid (q = cntU 0 s.2.2.1 n) := ⟨_, (rfl : _ = _)⟩
        rw [← hq.out]
        rintro e4 w4 ⟨rfl, rfl⟩
        go_upto_region 45 with fail
        obtain ⟨W5, hW5⟩ : ∃ W5, W5 = W3.setCell ⟨wr.heap.size + 1, 2, none⟩ (.int .i64 (q : Int)) := ⟨_, rfl⟩
        rw [← hW5]
        obtain ⟨z1, z2, z3, z4, z5, z6, z7⟩ := hS5.out
        have r5 : W5.rowIs w.heap.size 3 n (inF s.2.2.1) := by rw [hW5]; exact z1.setOther (by simp; omega) _
        have b5 : Blk W5 (wr.heap.size + 1) 85 #[.int .i64 s.1, .int .i64 s.2.1, .int .i64 q] := by rw [hW5]; exact z2.put 2 (.int .i64 q)
        have o5 : W5.ownsRow w.heap.size 85 3 u8 i (fdL fds) := by rw [hW5]; exact ownsRow_setCell_other z3 (a := ⟨wr.heap.size + 1, 2, none⟩) z7 _
        have l5 : W5.ownsRow w.heap.size 77 3 u9 s.2.2.2.length (rrL s.2.2.2) := by rw [hW5]; exact ownsRow_setCell_other z4 (a := ⟨wr.heap.size + 1, 2, none⟩) (own_ne_blk z4 z2 (by decide)) _
        have n5 : New w W5 := by rw [hW5]; exact z5.set (p := ⟨wr.heap.size + 1, 2, none⟩) (by simp; omega) _
        clear hW5 z1 z2 z3 z4 z5 z6 z7 x2 y2 hS5
        have x0 := b5.cell 0
        have x1 := b5.cell 1
        have x2 := b5.cell 2
        simp at x0 x1 x2
        have hs5 := n5.size
        go_wp2_with (at_builtin; refine wpList_append_own _ rfl _ _ 33 rfl w.heap.size 85 i0 _ 3 24 Try.underlying33 hi0 hz0 hz1 hz2 rfl (by decide) _ i (fdL fds) rfl (o5.alloc _) ⟨W5.heap.size, 0, none⟩ 1 1 [.int .i64 s.1, .int .i64 s.2.1, .int .i64 q] rfl rfl (World.news_of_block (cs := #[.int .i64 _, .int .i64 _, .int .i64 _]) (t := 85) (fr := (0, 0)) (heap_alloc_new W5 _)) (by simp [Value.oneCell']) (by unfold maxLen; omega) (by omega) (by simp; omega) ?_; intro v6 w6 hown6 hgrow hnil)
        have hN6 : New w w6 := n5.append' hgrow fun g hg => (o5.lt _ hg).1
        have hou : u8.ownBlock ≠ some w.heap.size := own_ne_row o5 r5 (by decide)
        have r6 := rowIs_grown (r5.alloc (.cells #[.int .i64 s.1, .int .i64 s.2.1, .int .i64 q] 85)) hgrow hou
        have hlo : u9.ownBlock = none ∨ u9.ownBlock ≠ u8.ownBlock := by
          by_cases hn : u9.ownBlock = none
          · exact .inl hn
          · exact .inr (own_ne l5 o5 (by decide) hn)
        have l6 := (l5.alloc (.cells #[.int .i64 s.1, .int .i64 s.2.1, .int .i64 q] 85)).kept hgrow hlo
        have hown7 : Hid (w6.ownsRow w.heap.size 85 3 v6 (i + 1) (fdL (S (i + 1)).2.2)) := by
          rw [tt.out.2.2, fdL_app, ← hq.out, ← hfds.out]; exact hown6
        have hr7 : Hid (w6.rowIs w.heap.size 3 n (inF (S (i + 1)).1)) := by rw [tt.out.1]; exact r6
        have hl7 : Hid (w6.ownsRow w.heap.size 77 3 u9 (S (i + 1)).2.1.length (rrL (S (i + 1)).2.1)) := by rw [tt.out.2.1]; exact l6
        clear hown6 hgrow hnil r5 o5 l5 r6 l6 x0 x1 x2 b5
        go_wp2
        go_roundw
        case rel => exact ⟨i + 1, by go_num, by omega, hr7.out, hown7.out, hl7.out, hN6⟩
        case measure => simp [intOf]; omega
    · have hin : i = m := by omega
      subst hin
      have hf := hfd.out i
      have hf1 := Lib.hid hf
      have ho := Lib.hid hown
      have hl := Lib.hid hlog
      clear hf hown hlog
      go_wp2
      exact bodyPost_ret (v := .tuple #[u8, u9, .int .i64 0]) (by simp [results, Try.results17, go_sem]) rfl ⟨_, _, rfl, by rw [hf1.out]; exact ho.out, hl.out, hnw⟩
end Go.Proofs.Ythjjchlibbheaaa.space
