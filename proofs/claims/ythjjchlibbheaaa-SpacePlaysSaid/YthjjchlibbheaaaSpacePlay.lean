/-
  Contract of space.Play.
-/
import Derived.Test.YthjjchlibbheaaaSpaceDo
namespace Go.Proofs.Ythjjchlibbheaaa.space
open Go.ChangeShapes Go.WideShapes Go.ChangeAt Go.RowKit Go.Proofs.Ythjjchlibbheaaa.kit Go.Deep
set_option linter.unusedVariables false

theorem setU_le {u : Nat → Nat} {f t x : Nat} (h : ∀ j, u j ≤ 3) (hx : x ≤ 3) : ∀ j, setU u f t x j ≤ 3 := fun j => by
  unfold setU; split
  · exact hx
  · exact h j
theorem step_le (n : Nat) (u : Nat → Nat) (recs : Recs) (k f c : Int) (h : ∀ j, u j ≤ 3) : ∀ j, (stepS n u recs k f c).2.2.1 j ≤ 3 := by
  unfold stepS
  split
  · unfold tkS
    split
    · exact h
    · cases takeAt (fun i => decide (u i = 0)) c.toNat n with
      | none => exact h
      | some f => exact setU_le h (by omega)
  · split
    · unfold gvS
      split
      · split
        · exact setU_le h (by omega)
        · exact h
      · exact h
    · split
      · intro j
        show cmU u j ≤ 3
        unfold cmU
        split
        · omega
        · split
          · omega
          · exact h j
      · exact h
theorem step_recs (n : Nat) (u : Nat → Nat) (recs : Recs) (k f c : Int) (hn : n ≤ 4096) : (stepS n u recs k f c).2.2.2.length ≤ recs.length + 4097 := by
  unfold stepS
  split
  · unfold tkS
    split
    · exact Nat.le_add_right _ _
    · cases takeAt (fun i => decide (u i = 0)) c.toNat n with
      | none => exact Nat.le_add_right _ _
      | some f => show (recs ++ [_]).length ≤ _; simp
  · split
    · unfold gvS
      split
      · split <;> exact Nat.le_add_right _ _
      · exact Nat.le_add_right _ _
    · split
      · show (recs ++ rrM _).length ≤ _
        have := listN_len (fun i => decide (u i = 3)) n
        rw [List.length_append]; unfold rrM; rw [List.length_map]; omega
      · exact Nat.le_add_right _ _
abbrev Fnds := List (Int × Int × Nat)
def plS (n : Nat) (K F C : Nat → Int) : Nat → (Nat → Nat) × Recs × Fnds
  | 0 => (fun _ => 0, [], [])
  | i + 1 => ((stepS n (plS n K F C i).1 (plS n K F C i).2.1 (K i) (F i) (C i)).2.2.1, (stepS n (plS n K F C i).1 (plS n K F C i).2.1 (K i) (F i) (C i)).2.2.2,
      (plS n K F C i).2.2 ++ [((stepS n (plS n K F C i).1 (plS n K F C i).2.1 (K i) (F i) (C i)).1, (stepS n (plS n K F C i).1 (plS n K F C i).2.1 (K i) (F i) (C i)).2.1, cntU 0 (stepS n (plS n K F C i).1 (plS n K F C i).2.1 (K i) (F i) (C i)).2.2.1 n)])
theorem pl_le (n : Nat) (K F C : Nat → Int) : ∀ i j, (plS n K F C i).1 j ≤ 3
  | 0, j => Nat.zero_le _
  | i + 1, j => step_le n _ _ _ _ _ (pl_le n K F C i) j
theorem pl_recs (n : Nat) (K F C : Nat → Int) (hn : n ≤ 4096) : ∀ i, (plS n K F C i).2.1.length ≤ 4097 * i
  | 0 => Nat.le_refl 0
  | i + 1 => by
    have h1 := step_recs n (plS n K F C i).1 (plS n K F C i).2.1 (K i) (F i) (C i) hn
    have h2 := pl_recs n K F C hn i
    show (stepS n _ _ (K i) (F i) (C i)).2.2.2.length ≤ _
    omega
theorem pl_fnds (n : Nat) (K F C : Nat → Int) : ∀ i, (plS n K F C i).2.2.length = i
  | 0 => rfl
  | i + 1 => by
    show ((plS n K F C i).2.2 ++ [_]).length = i + 1
    rw [List.length_append, pl_fnds n K F C i]; rfl
theorem cnt_zero : ∀ n, cntU 0 (fun _ => 0) n = n
  | 0 => rfl
  | n + 1 => by unfold cntU; rw [cnt_zero n]; simp
def fdV (p : Int × Int × Nat) : List Value := [.int .i64 p.1, .int .i64 p.2.1, .int .i64 (p.2.2 : Nat)]
def fdL (l : Fnds) : List Value := l.flatMap fdV
theorem fdL_app (l : Fnds) (p : Int × Int × Nat) : fdL (l ++ [p]) = fdL l ++ fdV p := by simp [fdL]
theorem infoFound : (Try.prog.info? 85).map (fun i => (i.zero, i.size, i.bytes)) = some (some (.agg #[.int .i64 0, .int .i64 0, .int .i64 0]), 3, 24) := by kernel_rfl
theorem own_keep {w w' : World} {b s n : Nat} {v : Value} {xs : List Value} (h : w.ownsRow b 85 s v n xs) (hk : KeepT w w') : w'.ownsRow b 85 s v n xs := by
  refine ⟨h.1, ?_⟩
  rcases h.2 with h0 | ⟨g, cap, cur, rfl, hb, hg, hr⟩
  · exact .inl h0
  · exact .inr ⟨g, cap, cur, rfl, hb, keep_found hg hk, hr⟩
theorem SpaceL.grownF {B G U n : Nat} {u : Nat → Nat} {recs : Recs} {w w' : World} {b s k : Nat} {v : Value} {xs : List Value} (h : SpaceL B w G U n u recs) (hg : w.grownBy w' v.ownBlock) (hv : w.ownsRow b 85 s v k xs) : SpaceL B w' G U n u recs := by
  obtain ⟨h1, h2, h3, log, ⟨h4, h5, h6⟩, h7⟩ := h
  have hlv : log.ownBlock = none ∨ log.ownBlock ≠ v.ownBlock := by
    by_cases hn : log.ownBlock = none
    · exact .inl hn
    · exact .inr (own_ne h7 hv (by decide) hn)
  exact ⟨h1, h2, h3, log, ⟨h4.grown hg (own_ne_blk hv h4 (by decide)), rowIs_grown h5 hg (own_ne_row hv h5 (by decide)), Nat.lt_of_lt_of_le h6 hg.size⟩, h7.kept hg hlv⟩
/-- deeds, read in memory -/
def RdD (w : World) (A : Option Addr) (m : Nat) (K F C : Nat → Int) : Prop :=
  m ≤ maxLen ∧ (0 < m → ∃ b off, A = some ⟨b, off, none⟩ ∧ b < w.heap.size ∧
    ∀ i, i < m → w.cell? ⟨b, off + i * 3, none⟩ = some (.int .i64 (K i)) ∧ w.cell? ⟨b, off + i * 3 + 1, none⟩ = some (.int .i64 (F i)) ∧ w.cell? ⟨b, off + i * 3 + 2, none⟩ = some (.int .i64 (C i)))
theorem RdD.new {w w' : World} {A : Option Addr} {m : Nat} {K F C : Nat → Int} (h : RdD w A m K F C) (hn : New w w') : RdD w' A m K F C :=
  ⟨h.1, fun h0 => by
    obtain ⟨b, off, hA, hb, hc⟩ := h.2 h0
    exact ⟨b, off, hA, Nat.lt_of_lt_of_le hb hn.size, fun i hi => ⟨(hn.cell hb).trans (hc i hi).1, (hn.cell hb).trans (hc i hi).2.1, (hn.cell hb).trans (hc i hi).2.2⟩⟩⟩
set_option maxHeartbeats 1000000 in
set_option maxRecDepth 100000 in
theorem Play_ok (n m c : Nat) (A : Option Addr) (K F C : Nat → Int) (w : World) (h1 : 1 ≤ n) (hn : n ≤ 4096) (hm : m ≤ 300) (hR : RdD w A m K F C) :
    Calls Try.prog 16 #[.int .i64 n, .slice A m c] w fun e w' => ∃ v1 v2, e = .returned (.tuple #[v1, v2, .int .i64 0]) ∧ w'.ownsRow w.heap.size 85 3 v1 (plS n K F C m).2.2.length (fdL (plS n K F C m).2.2) ∧ w'.ownsRow w.heap.size 77 3 v2 (plS n K F C m).2.1.length (rrL (plS n K F C m).2.1) ∧ New w w' := by
  have hd : decide (sizeP n) = true := decide_eq_true (by unfold sizeP; omega)
  have hR0 := Lib.hid hR
  clear hR
  obtain ⟨S, hS⟩ : ∃ S, Hid (S = plS n K F C) := ⟨_, (rfl : _ = _)⟩
  rw [← hS.out]
  have hle : Hid (∀ i j, (S i).1 j < 256) := fun i j => by rw [hS.out]; exact Nat.lt_of_le_of_lt (pl_le n K F C i j) (by omega)
  have hrc : Hid (∀ i, (S i).2.1.length ≤ 4097 * i) := fun i => by rw [hS.out]; exact pl_recs n K F C hn i
  have hfd : Hid (∀ i, (S i).2.2.length = i) := fun i => by rw [hS.out]; exact pl_fnds n K F C i
  have hst : Hid (∀ i, (S (i + 1)).1 = (stepS n (S i).1 (S i).2.1 (K i) (F i) (C i)).2.2.1 ∧ (S (i + 1)).2.1 = (stepS n (S i).1 (S i).2.1 (K i) (F i) (C i)).2.2.2 ∧
      (S (i + 1)).2.2 = (S i).2.2 ++ [((stepS n (S i).1 (S i).2.1 (K i) (F i) (C i)).1, (stepS n (S i).1 (S i).2.1 (K i) (F i) (C i)).2.1, cntU 0 (stepS n (S i).1 (S i).2.1 (K i) (F i) (C i)).2.2.1 n)]) := fun i => by rw [hS.out]; exact ⟨rfl, rfl, rfl⟩
  have hS0 : Hid (S 0 = (fun _ => 0, [], [])) := by rw [hS.out]; exact (rfl : _ = _)
  have hmk := run_make_row' (P := Try.prog) 79 5 (.int .u8 0) 1 Try.underlying79 infoByte rfl .i64 .i64 n (by omega) (by omega)
  obtain ⟨i0, hi0, hz0, hz1, hz2⟩ := info_parts infoFound
  have hm3 : ¬ (300 : Int) < (m : Int) := by omega
  have hm4 : (m : Int) ≤ 300 := by omega
  go_enter Try.func16, Try.ntmps16
  go_wp2_with fail
  refine (sized_any _ _).mono ?_
  rw [hd]
  rintro e w1 ⟨rfl, rfl⟩
  go_wp2
  go_loopw [25, 8] (fun k o wr => ∃ i : Nat, k = .int .i64 i ∧ i ≤ m ∧ SpaceL w.heap.size wr (w.heap.size + 1) w.heap.size n (S i).1 (S i).2.1 ∧ wr.ownsRow w.heap.size 85 3 o i (fdL (S i).2.2) ∧ New w wr ∧ w.heap.size + 1 < wr.heap.size) (fun k _ _ => m - (intOf k).toNat)
  case atStart =>
    refine ⟨0, rfl, by omega, ?_, ?_, ((New.refl w).alloc _).alloc _, by simp⟩
    · rw [hS0.out]
      refine ⟨by omega, Nat.le_refl _, by omega, .slice none 0 0, ⟨?_, ?_, by simp; omega⟩, World.ownsRow_nil _ _ _ _⟩
      · have := Blk.fresh (w.alloc (.cells (madeCells #[.int .u8 0] n) 5)) 81 #[.slice (some ⟨w.heap.size, 0, none⟩) n n, .int .i64 n, .slice none 0 0]
        rw [cnt_zero]
        simpa using this
      · exact ((World.rowIs_made w (.int .u8 0) n 5).congr fun j hj => by simp [byF]).alloc _
    · rw [hS0.out]; exact World.ownsRow_nil _ _ _ _
  case round =>
    obtain ⟨i, rfl, hi, hSp, hown, hnw, hsz⟩ := hrel
    by_cases hlt : i < m
    · obtain ⟨b, off, rfl, hb, hcs⟩ := hR0.out.2 (by omega)
      obtain ⟨k, hk⟩ : ∃ k, Hid (k = K i) := ⟨_, (rfl : _ = _)⟩
      obtain ⟨f, hf⟩ : ∃ f, Hid (f = F i) := ⟨_, (rfl : _ = _)⟩
      obtain ⟨cc, hcc⟩ : ∃ cc, Hid (cc = C i) := ⟨_, (rfl : _ = _)⟩
      have c0 := (hnw.cell (p := ⟨b, off + i * 3, none⟩) hb).trans (hcs i hlt).1
      have c1 := (hnw.cell (p := ⟨b, off + i * 3 + 1, none⟩) hb).trans (hcs i hlt).2.1
      have c2 := (hnw.cell (p := ⟨b, off + i * 3 + 2, none⟩) hb).trans (hcs i hlt).2.2
      rw [← hk.out] at c0
      rw [← hf.out] at c1
      rw [← hcc.out] at c2
      obtain ⟨s, hs⟩ : ∃ s, Hid (s = stepS n (S i).1 (S i).2.1 k f cc) := ⟨_, (rfl : _ = _)⟩
      obtain ⟨t1, t2, t3⟩ := hst.out i
      rw [← hk.out, ← hf.out, ← hcc.out, ← hs.out] at t1 t2 t3
      have tt := Lib.hid (And.intro t1 (And.intro t2 t3))
      have hrl : (S i).2.1.length ≤ 10000000 := by have := hrc.out i; omega
      clear t1 t2 t3 hcs
      go_upto_region 10 with fail
      obtain ⟨W1, hW1⟩ : ∃ W1, W1 = wr.alloc (.cells #[.int .i64 k, .int .i64 f, .int .i64 cc] 83) := ⟨_, rfl⟩
      rw [← hW1]
      have bD : Blk W1 wr.heap.size 83 #[.int .i64 k, .int .i64 f, .int .i64 cc] := by rw [hW1]; exact Blk.fresh _ _ _
      have hN1 : New wr W1 := by rw [hW1]; exact (New.refl _).alloc _
      clear hW1 c0 c1 c2
      have d0 := bD.cell 0
      have d1 := bD.cell 1
      have d2 := bD.cell 2
      simp at d0 d1 d2
      have hSp1 := hSp.new hN1
      have hown1 := own_new hown hN1
      have hnw1 := hnw.next hN1
      have hs1 := hN1.size
      clear hSp hown
      go_wp2_with fail
      refine (do_any w.heap.size (w.heap.size + 1) w.heap.size n (S i).1 (S i).2.1 k f cc W1 hSp1 hn (hle.out i) (by omega) hrl).mono ?_
      rw [← hs.out]
      rintro e w3 ⟨rfl, hSp3, hB3, hK3⟩
      have hown3 := own_keep hown1 hK3
      have hN3 : New w w3 := Below.trans hnw1 hB3
      have hs3 := hB3.size
      clear hSp1 hown1 d0 d1 d2
      go_upto_region 11 with fail
      obtain ⟨W4, hW4⟩ : ∃ W4, W4 = w3.alloc (.cells #[.int .i64 s.1, .int .i64 s.2.1, .int .i64 0] 85) := ⟨_, rfl⟩
      rw [← hW4]
      have bR : Blk W4 w3.heap.size 85 #[.int .i64 s.1, .int .i64 s.2.1, .int .i64 0] := by rw [hW4]; exact Blk.fresh _ _ _
      have hN4 : New w3 W4 := by rw [hW4]; exact (New.refl _).alloc _
      clear hW4
      have hSp4 := hSp3.new hN4
      have hown4 := own_new hown3 hN4
      obtain ⟨q, hq⟩ : ∃ q, Hid (q = cntU 0 s.2.2.1 n) := ⟨_, (rfl : _ = _)⟩
      have g1 : W4.cell? ⟨w.heap.size + 1, 1, none⟩ = some (.int .i64 (q : Int)) := by
        obtain ⟨_, _, _, log, ⟨h4, _⟩, _⟩ := hSp4
        have := h4.cell 1
        rw [hq.out]
        simpa using this
      have x2 := bR.cell 2
      have xf := bR.frozen 2
      simp at x2
      have hGw3 : w.heap.size + 1 < w3.heap.size := by omega
      go_upto_region 12 with fail
      obtain ⟨W5, hW5⟩ : ∃ W5, W5 = W4.setCell ⟨w3.heap.size, 2, none⟩ (.int .i64 (q : Int)) := ⟨_, rfl⟩
      rw [← hW5]
      have b5 : Blk W5 w3.heap.size 85 #[.int .i64 s.1, .int .i64 s.2.1, .int .i64 q] := by rw [hW5]; exact bR.put 2 (.int .i64 q)
      have hSp5 : SpaceL w.heap.size W5 (w.heap.size + 1) w.heap.size n s.2.2.1 s.2.2.2 := by rw [hW5]; exact hSp4.set bR 2 _
      have hno : u8.ownBlock ≠ some w3.heap.size := fun he => absurd (hown3.lt _ he).2 (Nat.lt_irrefl _)
      have hown5 : W5.ownsRow w.heap.size 85 3 u8 i (fdL (S i).2.2) := by rw [hW5]; exact ownsRow_setCell_other hown4 (a := ⟨w3.heap.size, 2, none⟩) hno _
      have hN5 : New w W5 := by rw [hW5]; exact (hN3.next hN4).set (p := ⟨w3.heap.size, 2, none⟩) hN3.size _
      clear hW5 hSp4 hown4 g1 x2 xf bR hSp3 hown3
      have x0 := b5.cell 0
      have x1 := b5.cell 1
      have x2 := b5.cell 2
      simp at x0 x1 x2
      have hs5 := hN5.size
      go_wp2_with (at_builtin; refine wpList_append_own _ rfl _ _ 33 rfl w.heap.size 85 i0 _ 3 24 Try.underlying33 hi0 hz0 hz1 hz2 rfl (by decide) _ i (fdL (S i).2.2) rfl (hown5.alloc _) ⟨W5.heap.size, 0, none⟩ 1 1 [.int .i64 s.1, .int .i64 s.2.1, .int .i64 q] rfl rfl (World.news_of_block (cs := #[.int .i64 _, .int .i64 _, .int .i64 _]) (t := 85) (fr := (0, 0)) (heap_alloc_new W5 _)) (by simp [Value.oneCell']) (by unfold maxLen; omega) (by omega) (by simp; omega) ?_; intro v6 w6 hown6 hgrow hnil)
      have hSp6 := (hSp5.new ((New.refl W5).alloc (.cells #[.int .i64 s.1, .int .i64 s.2.1, .int .i64 q] 85))).grownF hgrow (hown5.alloc _)
      have hN6 : New w w6 := hN5.append' hgrow fun g hg => (hown5.lt _ hg).1
      have hsz6 : w.heap.size + 1 < w6.heap.size := by have := hgrow.size; simp at this; have := b5.lt; omega
      have hown7 : Hid (w6.ownsRow w.heap.size 85 3 v6 (i + 1) (fdL (S (i + 1)).2.2)) := by
        rw [tt.out.2.2, fdL_app, ← hq.out]; exact hown6
      have hSp7 : Hid (SpaceL w.heap.size w6 (w.heap.size + 1) w.heap.size n (S (i + 1)).1 (S (i + 1)).2.1) := by rw [tt.out.1, tt.out.2.1]; exact hSp6
      clear hown6 hgrow hnil hSp6 hSp5 hown5 x0 x1 x2
      go_wp2
      go_roundw
      case rel => exact ⟨i + 1, by go_num, by omega, hSp7.out, hown7.out, hN6, hsz6⟩
      case measure => simp [intOf]; omega
    · have hin : i = m := by omega
      subst hin
      obtain ⟨_, _, _, log, ⟨h4, _⟩, h7⟩ := hSp
      have g2 := h4.cell 2
      simp at g2
      have ho := Lib.hid hown
      have hl := Lib.hid h7
      have hf := hfd.out i
      have hf1 := Lib.hid hf
      clear hown h7 h4 hf
      go_wp2
      go_quiet (fail)
      go_wp2
      have hN9 : New w (wr.drewN nq) := hnw.drewN _
      have ho9 : (wr.drewN nq).ownsRow w.heap.size 85 3 u8 i (fdL (S i).2.2) := own_new ho.out (New.of_drewN wr nq)
      have hl9 := own_new hl.out (New.of_drewN wr nq)
      exact bodyPost_ret (v := .tuple #[u8, log, .int .i64 0]) (by simp [results, Try.results16, go_sem]) rfl ⟨_, _, rfl, by rw [hf1.out]; exact ho9, hl9, hN9⟩
end Go.Proofs.Ythjjchlibbheaaa.space
