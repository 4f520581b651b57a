/-
  Contract: one deed.
-/
import Derived.Test.YthjjchlibbheaaaSpaceCommit
namespace Go.Proofs.Ythjjchlibbheaaa.space
open Go.ChangeShapes Go.WideShapes Go.ChangeAt Go.RowKit Go.Proofs.Ythjjchlibbheaaa.kit Go.Deep
set_option linter.unusedVariables false

abbrev Recs := List (Bool × Nat × Nat)
instance (n : Nat) (f c : Int) : Decidable (giveP n f c) := by unfold giveP; infer_instance
def tkR (u : Nat → Nat) (recs : Recs) (c : Nat) : Option Nat → Int × Int × (Nat → Nat) × Recs
  | none => (8, 0, u, recs)
  | some f => (0, (f : Int), setU u f (f + c) 1, recs ++ [(false, f, f + c)])
def tkS (n : Nat) (u : Nat → Nat) (recs : Recs) (c : Int) : Int × Int × (Nat → Nat) × Recs :=
  if c < 1 ∨ (n : Int) < c then (2, 0, u, recs) else tkR u recs c.toNat (takeAt (fun i => decide (u i = 0)) c.toNat n)
def gvS (n : Nat) (u : Nat → Nat) (recs : Recs) (f c : Int) : Int × Int × (Nat → Nat) × Recs :=
  if giveP n f c then (if allU u f.toNat 1 c.toNat = true then (0, 0, setU u f.toNat (f.toNat + c.toNat) 2, recs) else (6, 0, u, recs)) else (2, 0, u, recs)
def stepS (n : Nat) (u : Nat → Nat) (recs : Recs) (k f c : Int) : Int × Int × (Nat → Nat) × Recs :=
  if k = 1 then tkS n u recs c else if k = 2 then gvS n u recs f c else if k = 3 then (0, 0, cmU u, recs ++ rrM (listN (fun i => decide (u i = 3)) n)) else (3, 0, u, recs)
/-- what a deed leaves -/
def After (B G U n : Nat) (s : Int × Int × (Nat → Nat) × Recs) (w w' : World) : Prop := SpaceL B w' G U n s.2.2.1 s.2.2.2 ∧ Below B w w' ∧ KeepT w w'
theorem SpaceL.new {B G U n : Nat} {u : Nat → Nat} {recs : Recs} {w w' : World} (h : SpaceL B w G U n u recs) (hn : New w w') : SpaceL B w' G U n u recs := by
  obtain ⟨h1, h2, h3, log, h4, h5⟩ := h
  exact ⟨h1, h2, h3, log, h4.new hn, own_new h5 hn⟩
theorem take_any (B G U n : Nat) (u : Nat → Nat) (recs : Recs) (c : Int) (w : World) (h : SpaceL B w G U n u recs) (hn : n ≤ 4096) (hu : ∀ j, u j < 256) (hBw : B ≤ w.heap.size) (hrs : recs.length ≤ 10000000) :
    Calls Try.prog 57 #[.pointer (some ⟨G, 0, none⟩), .int .i64 c] w fun e w' => e = .returned (fnd (tkS n u recs c).1 (tkS n u recs c).2.1) ∧ After B G U n (tkS n u recs c) w w' := by
  by_cases hc : c < 1 ∨ (n : Int) < c
  · have e : tkS n u recs c = (2, 0, u, recs) := if_pos hc
    rw [e]
    exact (take_bad B G U n u recs c w h hc).mono fun e w' ⟨h1, h2⟩ => ⟨h1, h.new h2, h2.mono hBw, (KeepT.refl w).new h2⟩
  · have e : tkS n u recs c = tkR u recs c.toNat (takeAt (fun i => decide (u i = 0)) c.toNat n) := if_neg hc
    rw [e]
    obtain ⟨cN, rfl⟩ : ∃ cN : Nat, (cN : Int) = c := ⟨c.toNat, by omega⟩
    refine (take_ok B G U n cN u recs w h (by omega) (by omega) hn hu hrs).mono fun e w' ⟨h1, h2, h3⟩ => ?_
    rw [Int.toNat_natCast]
    rcases h1 with ⟨q1, q2, q3⟩ | ⟨f, q1, q2, q3⟩
    · rw [q1]; exact ⟨q2, q3, h2, h3⟩
    · rw [q1]; exact ⟨q2, q3, h2, h3⟩
theorem give_any (B G U n : Nat) (u : Nat → Nat) (recs : Recs) (k f c : Int) (w : World) (h : SpaceL B w G U n u recs) (hn : n ≤ 4096) (hu : ∀ j, u j < 256) (hBw : B ≤ w.heap.size) :
    Calls Try.prog 58 #[.pointer (some ⟨G, 0, none⟩), dee k f c] w fun e w' => e = .returned (.int .i64 (gvS n u recs f c).1) ∧ After B G U n (gvS n u recs f c) w w' := by
  by_cases hc : giveP n f c
  · have e : gvS n u recs f c = (if allU u f.toNat 1 c.toNat = true then (0, 0, setU u f.toNat (f.toNat + c.toNat) 2, recs) else (6, 0, u, recs)) := if_pos hc
    rw [e]
    obtain ⟨h1, h2, h3, h4⟩ := hc
    obtain ⟨fN, rfl⟩ : ∃ fN : Nat, (fN : Int) = f := ⟨f.toNat, by omega⟩
    obtain ⟨cN, rfl⟩ : ∃ cN : Nat, (cN : Int) = c := ⟨c.toNat, by omega⟩
    refine (give_ok B G U n fN cN k u recs w h (by omega) (by omega) hn hu hBw).mono fun e w' ⟨q, h5, h6⟩ => ?_
    rw [Int.toNat_natCast, Int.toNat_natCast]
    rcases q with ⟨q1, q2, q3⟩ | ⟨q1, q2, q3⟩
    · rw [if_pos q1]; exact ⟨q2, q3, h5, h6⟩
    · rw [if_neg (by rw [q1]; simp)]; exact ⟨q2, q3, h5, h6⟩
  · have e : gvS n u recs f c = (2, 0, u, recs) := if_neg hc
    rw [e]
    exact (give_bad B G U n u recs k f c w h hn hc).mono fun e w' ⟨h1, h2⟩ => ⟨h1, h.new h2, h2.mono hBw, (KeepT.refl w).new h2⟩
theorem gvS_from (n : Nat) (u : Nat → Nat) (recs : Recs) (f c : Int) : (gvS n u recs f c).2.1 = 0 := by
  unfold gvS; split
  · split <;> rfl
  · rfl
/-- the block of the answer is kept -/
theorem keep_found {w w' : World} {g : Nat} {cs : Array Value} (h : Blk w g 85 cs) (hk : KeepT w w') : Blk w' g 85 cs := hk g _ h fun cs' t fr he ht => by
  injection he with _ he _
  subst he
  rcases ht with h1 | h1 | h1 <;> exact absurd h1 (by decide)
theorem keep_deed {w w' : World} {g : Nat} {cs : Array Value} (h : Blk w g 83 cs) (hk : KeepT w w') : Blk w' g 83 cs := hk g _ h fun cs' t fr he ht => by
  injection he with _ he _
  subst he
  rcases ht with h1 | h1 | h1 <;> exact absurd h1 (by decide)
theorem SpaceL.set {B G U n : Nat} {u : Nat → Nat} {recs : Recs} {w : World} {g : Nat} {cs : Array Value} (h : SpaceL B w G U n u recs) (hb : Blk w g 85 cs) (i : Nat) (v : Value) : SpaceL B (w.setCell ⟨g, i, none⟩ v) G U n u recs := by
  obtain ⟨h1, h2, h3, log, ⟨h4, h5, h6⟩, h7⟩ := h
  have e1 : G ≠ g := fun he => by
    subst he; unfold Blk at hb h4; rw [hb] at h4; injection h4 with h4; injection h4 with _ h4 _; exact absurd h4 (by decide)
  have e2 : U ≠ g := fun he => by
    subst he
    obtain ⟨c, hc, _⟩ := h5
    unfold Blk at hb; rw [hb] at hc; injection hc with hc; injection hc with _ hc _; exact absurd hc (by decide)
  exact ⟨h1, h2, h3, log, ⟨h4.far e1 _, h5.setOther e2 _, by simpa using h6⟩, ownsRow_setCell_other h7 (a := ⟨g, i, none⟩) (own_ne_blk h7 hb (by decide)) _⟩
/-- the answer is laid -/
def laid (w : World) (g : Nat) (a b : Int) : World := ((w.setCell ⟨g, 0, none⟩ (.int .i64 a)).setCell ⟨g, 1, none⟩ (.int .i64 b)).setCell ⟨g, 2, none⟩ (.int .i64 0)
theorem found_end {B G U n g : Nat} {s : Int × Int × (Nat → Nat) × Recs} {w w3 : World} {x y z : Value} (hS : SpaceL B w3 G U n s.2.2.1 s.2.2.2) (hB : Below B w w3) (hK : KeepT w w3) (b3 : Blk w3 g 85 #[x, y, z]) (hg : w.heap.size ≤ g) (hBg : B ≤ g) (a b : Int) :
    After B G U n s w (laid w3 g a b) ∧ (laid w3 g a b).cell? ⟨g, 0, none⟩ = some (.int .i64 a) ∧ (laid w3 g a b).cell? ⟨g, 1, none⟩ = some (.int .i64 b) ∧ (laid w3 g a b).cell? ⟨g, 2, none⟩ = some (.int .i64 0) := by
  have h0 := b3.put 0 (.int .i64 a)
  have h1 := h0.put 1 (.int .i64 b)
  have h2 := h1.put 2 (.int .i64 0)
  have p0 := h2.cell 0
  have p1 := h2.cell 1
  have p2 := h2.cell 2
  simp at p0 p1 p2
  refine ⟨⟨((hS.set b3 0 _).set h0 1 _).set h1 2 _, Below.setCell (Below.setCell (Below.setCell hB (p := ⟨g, 0, none⟩) hBg _) (p := ⟨g, 1, none⟩) hBg _) (p := ⟨g, 2, none⟩) hBg _, ((hK.set (p := ⟨g, 0, none⟩) _ (.inl hg)).set (p := ⟨g, 1, none⟩) _ (.inl hg)).set (p := ⟨g, 2, none⟩) _ (.inl hg)⟩, p0, p1, p2⟩
set_option maxHeartbeats 1000000 in
theorem do_any (B G U n : Nat) (u : Nat → Nat) (recs : Recs) (k f c : Int) (w : World) (h : SpaceL B w G U n u recs) (hn : n ≤ 4096) (hu : ∀ j, u j < 256) (hBw : B ≤ w.heap.size) (hrs : recs.length ≤ 10000000) :
    Calls Try.prog 38 #[.pointer (some ⟨G, 0, none⟩), dee k f c] w fun e w' => e = .returned (fnd (stepS n u recs k f c).1 (stepS n u recs k f c).2.1) ∧ After B G U n (stepS n u recs k f c) w w' := by
  obtain ⟨W2, hW2⟩ : ∃ W2, W2 = (w.alloc (.cells #[.int .i64 k, .int .i64 f, .int .i64 c] 83)).alloc (.cells #[.int .i64 0, .int .i64 0, .int .i64 0] 85) := ⟨_, rfl⟩
  have hN2 : New w W2 := by rw [hW2]; exact ((New.refl _).alloc _).alloc _
  have bD : Blk W2 w.heap.size 83 #[.int .i64 k, .int .i64 f, .int .i64 c] := by rw [hW2]; exact (Blk.fresh _ _ _).alloc _
  have bR : Blk W2 (w.heap.size + 1) 85 #[.int .i64 0, .int .i64 0, .int .i64 0] := by
    rw [hW2]
    have := Blk.fresh (w.alloc (.cells #[.int .i64 k, .int .i64 f, .int .i64 c] 83)) 85 #[.int .i64 0, .int .i64 0, .int .i64 0]
    simpa using this
  have hS2 := h.new hN2
  have hBW2 : B ≤ W2.heap.size := Nat.le_trans hBw hN2.size
  have hu0 := Lib.hid hu
  have hS20 := Lib.hid hS2
  clear h hu hS2
  have d0 := bD.cell 0
  have d1 := bD.cell 1
  have d2 := bD.cell 2
  simp at d0 d1 d2
  have hR1 : w.heap.size + 1 < W2.heap.size := bR.lt
  by_cases k1 : k = 1
  · have e : Hid (stepS n u recs k f c = tkS n u recs c) := if_pos k1
    rw [e.out]
    obtain ⟨s, hs⟩ : ∃ s, Hid (s = tkS n u recs c) := ⟨_, (rfl : _ = _)⟩
    rw [← hs.out]
    subst k1
    go_enter Try.func38, Try.ntmps38
    go_upto_region 3 with fail
    rw [← hW2]
    clear hW2
    go_wp2_with fail
    refine (take_any B G U n u recs c W2 hS20.out hn hu0.out hBW2 hrs).mono ?_
    rw [← hs.out]
    rintro e w3 ⟨rfl, hS3, hB3, hK3⟩
    have b3 := keep_found bR hK3
    have hBw3 : Below B w w3 := (hN2.mono hBw).trans hB3
    have hKw3 : KeepT w w3 := ((KeepT.refl w).new hN2).trans hK3
    obtain ⟨hA, p0, p1, p2⟩ := found_end hS3 hBw3 hKw3 b3 (by omega) (by omega) s.1 s.2.1
    unfold laid at hA p0 p1 p2
    have c0 := b3.cell 0
    have c1 := b3.cell 1
    have c2 := b3.cell 2
    have f0 := b3.frozen 0
    have f1 := b3.frozen 1
    have f2 := b3.frozen 2
    simp at c0 c1 c2
    have hp := Lib.hid (And.intro p0 (And.intro p1 (And.intro p2 hA)))
    clear p0 p1 p2 hA hS3
    go_wp2
    obtain ⟨p0, p1, p2, hA⟩ := hp.out
    exact bodyPost_ret (v := fnd s.1 s.2.1) (by simp [results, Try.results38, go_sem, fnd, p0, p1, p2]) rfl ⟨rfl, hA⟩
  · by_cases k2 : k = 2
    · have e : Hid (stepS n u recs k f c = gvS n u recs f c) := by unfold stepS; rw [if_neg k1, if_pos k2]; exact (rfl : _ = _)
      rw [e.out, gvS_from]
      obtain ⟨s, hs⟩ : ∃ s, Hid (s = gvS n u recs f c) := ⟨_, (rfl : _ = _)⟩
      rw [← hs.out]
      subst k2
      go_enter Try.func38, Try.ntmps38
      go_upto_region 5 with fail
      rw [← hW2]
      clear hW2
      go_wp2_with fail
      refine (give_any B G U n u recs 2 f c W2 hS20.out hn hu0.out hBW2).mono ?_
      rw [← hs.out]
      rintro e w3 ⟨rfl, hS3, hB3, hK3⟩
      have b3 := keep_found bR hK3
      have hBw3 : Below B w w3 := (hN2.mono hBw).trans hB3
      have hKw3 : KeepT w w3 := ((KeepT.refl w).new hN2).trans hK3
      obtain ⟨hA, p0, p1, p2⟩ := found_end hS3 hBw3 hKw3 b3 (by omega) (by omega) s.1 0
      unfold laid at hA p0 p1 p2
      have c0 := b3.cell 0
      have c1 := b3.cell 1
      have c2 := b3.cell 2
      have f0 := b3.frozen 0
      have f1 := b3.frozen 1
      have f2 := b3.frozen 2
      simp at c0 c1 c2
      have hp := Lib.hid (And.intro p0 (And.intro p1 (And.intro p2 hA)))
      clear p0 p1 p2 hA hS3
      go_wp2
      obtain ⟨p0, p1, p2, hA⟩ := hp.out
      exact bodyPost_ret (v := fnd s.1 0) (by simp [results, Try.results38, go_sem, fnd, p0, p1, p2]) rfl ⟨rfl, hA⟩
    · by_cases k3 : k = 3
      · have e : Hid (stepS n u recs k f c = (0, 0, cmU u, recs ++ rrM (listN (fun i => decide (u i = 3)) n))) := by unfold stepS; rw [if_neg k1, if_neg k2, if_pos k3]; exact (rfl : _ = _)
        rw [e.out]
        obtain ⟨s, hs⟩ : ∃ s : Int × Int × (Nat → Nat) × Recs, Hid (s = (0, 0, cmU u, recs ++ rrM (listN (fun i => decide (u i = 3)) n))) := ⟨_, (rfl : _ = _)⟩
        rw [← hs.out]
        subst k3
        go_enter Try.func38, Try.ntmps38
        go_upto_region 7 with fail
        rw [← hW2]
        clear hW2
        go_wp2_with fail
        refine (commit_ok B G U n u recs W2 hS20.out hn hu0.out hBW2 hrs).mono ?_
        rintro e w3 ⟨rfl, hS3', hB3, hK3⟩
        have hS3 : SpaceL B w3 G U n s.2.2.1 s.2.2.2 := by rw [hs.out]; exact hS3'
        clear hS3'
        have b3 := keep_found bR hK3
        have hBw3 : Below B w w3 := (hN2.mono hBw).trans hB3
        have hKw3 : KeepT w w3 := ((KeepT.refl w).new hN2).trans hK3
        obtain ⟨hA, p0, p1, p2⟩ := found_end hS3 hBw3 hKw3 b3 (by omega) (by omega) 0 0
        unfold laid at hA p0 p1 p2
        have c0 := b3.cell 0
        have c1 := b3.cell 1
        have c2 := b3.cell 2
        have f0 := b3.frozen 0
        have f1 := b3.frozen 1
        have f2 := b3.frozen 2
        simp at c0 c1 c2
        have hp := Lib.hid (And.intro p0 (And.intro p1 (And.intro p2 hA)))
        clear p0 p1 p2 hA hS3
        go_wp2
        obtain ⟨p0, p1, p2, hA⟩ := hp.out
        exact bodyPost_ret (v := fnd 0 0) (by simp [results, Try.results38, go_sem, fnd, p0, p1, p2]) rfl ⟨by rw [hs.out], hA⟩
      · have e : Hid (stepS n u recs k f c = (3, 0, u, recs)) := by unfold stepS; rw [if_neg k1, if_neg k2, if_neg k3]; exact (rfl : _ = _)
        rw [e.out]
        obtain ⟨s, hs⟩ : ∃ s : Int × Int × (Nat → Nat) × Recs, Hid (s = (3, 0, u, recs)) := ⟨_, (rfl : _ = _)⟩
        rw [← hs.out]
        have hk1 : (k == 1) = false := by simp; omega
        have hk2 : (k == 2) = false := by simp; omega
        have hk3 : (k == 3) = false := by simp; omega
        go_enter Try.func38, Try.ntmps38
        go_upto_region 9 with fail
        rw [← hW2]
        clear hW2
        have hS3 : SpaceL B W2 G U n s.2.2.1 s.2.2.2 := by rw [hs.out]; exact hS20.out
        obtain ⟨w3, hw3⟩ : ∃ w3, w3 = W2 := ⟨_, rfl⟩
        rw [← hw3] at hS3 ⊢
        have hB3 : Below B W2 w3 := by rw [hw3]; exact Below.refl _ _
        have hK3 : KeepT W2 w3 := by rw [hw3]; exact KeepT.refl _
        clear hw3
        have b3 := keep_found bR hK3
        have hBw3 : Below B w w3 := (hN2.mono hBw).trans hB3
        have hKw3 : KeepT w w3 := ((KeepT.refl w).new hN2).trans hK3
        obtain ⟨hA, p0, p1, p2⟩ := found_end hS3 hBw3 hKw3 b3 (by omega) (by omega) 3 0
        unfold laid at hA p0 p1 p2
        have c0 := b3.cell 0
        have c1 := b3.cell 1
        have c2 := b3.cell 2
        have f0 := b3.frozen 0
        have f1 := b3.frozen 1
        have f2 := b3.frozen 2
        simp at c0 c1 c2
        have hp := Lib.hid (And.intro p0 (And.intro p1 (And.intro p2 hA)))
        clear p0 p1 p2 hA hS3
        go_wp2
        obtain ⟨p0, p1, p2, hA⟩ := hp.out
        exact bodyPost_ret (v := fnd 3 0) (by simp [results, Try.results38, go_sem, fnd, p0, p1, p2]) rfl ⟨by rw [hs.out], hA⟩
end Go.Proofs.Ythjjchlibbheaaa.space
