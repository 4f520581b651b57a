/-
  Contract of Do: jobs with data.
-/
import Derived.Test.YthjjchlibbheaaaDriveDo2
namespace Go.Proofs.Ythjjchlibbheaaa.drive
open Go.ChangeShapes Go.WideShapes Go.ChangeAt Go.RowKit Go.Proofs.Ythjjchlibbheaaa.kit Go.Proofs.Ythjjchlibbheaaa.each Go.Deep
set_option linter.unusedVariables false
set_option maxRecDepth 100000
set_option maxHeartbeats 2000000 in
theorem Do_rot (base d g n m : Nat) (s : DS) (pv : Nat → Value) (wv : Value) (dv : Nat → Value) (at_ : Nat) (p : Int) (R : Option Addr) (l c : Nat) (D : Nat → Nat) (w : World) (h : Dr base d g n s.pl s.br s.ws s.dead pv wv dv w) (hn : n ≤ 512) (hm : s.ws.length = m) (hm3 : m < 300)
    (hJ : RdI .u8 w R l (fun i => (D i : Nat))) (hlc : l ≤ c) (hcm : c ≤ maxLen) (hb : base ≤ w.heap.size) (hat : at_ < n) (hf : faultC n s.dead 6 at_ l = 0) :
    Calls Try.prog 43 #[.pointer (some ⟨d, 0, none⟩), jobV 6 at_ p R l c] w (DoP base d g n wv (stepS n s 6 at_ p l D) w) := by
  have hl63 : l ≤ maxLen := Nat.le_trans hlc hcm
  have hB0 := Lib.hid (JB.start w 6 at_ p R l c)
  have hD0 := h.new hB0.out.nw
  have hfa := Lib.hid (fault_any d g n wv s.dead 6 at_ p R l c _ hD0.bk hn hl63)
  obtain ⟨cd, hcd⟩ : ∃ cd, Hid (cd = faultC n s.dead 6 at_ l) := ⟨_, rfl⟩
  rw [← hcd.out] at hfa hf
  obtain ⟨st, hst⟩ : ∃ st, Hid (st = stepS n s 6 at_ p l D) := ⟨_, rfl⟩
  rw [← hst.out]
  have hD0H := Lib.hid hD0
  have hmH := Lib.hid hm
  have hJH := Lib.hid hJ
  have hwH := Lib.hid h
  have hdl := h.bk.lt
  clear hD0 h hm hJ
  have hse : Hid (st = (putP s (at_, D), 0, none)) := by
    show _ = _
    rw [hst.out]
    unfold stepS
    rw [if_neg (by rw [← hcd.out, hf]; simp), if_neg (by decide), if_neg (by decide), if_neg (by decide), if_neg (by decide), if_neg (by decide), if_pos rfl]
    all_goals rfl
  subst hf
  go_enter Try.func43, Try.ntmps43
  go_wp2_with fail
  refine hfa.out.mono ?_
  rintro e w1 ⟨rfl, hn1⟩
  have hB1 := hB0.out.new hn1
  have hD1 := Lib.hid (hD0H.out.new hn1)
  have j0 := hB1.jb.cell 0
  have j1 := hB1.jb.cell 1
  have j3 := hB1.jb.cell 3
  have r0 := hB1.rb.cell 0
  have r1 := hB1.rb.cell 1
  have r2 := hB1.rb.frozen 0
  have r3 := hB1.rb.frozen 1
  simp at j0 j1 j3 r0 r1
  have hB1H := Lib.hid hB1
  have hN1 := Lib.hid hB1.nw
  clear hn1 hB1 hfa hB0 hD0H
  have hl128 : l = 128 := by
    have h1 := hcd.out
    unfold faultC at h1
    split at h1
    · cases h1
    split at h1
    · cases h1
    split at h1
    · cases h1
    split at h1
    · cases h1
    · rename_i hx
      exact Decidable.not_not.1 fun hh => hx ⟨by decide, hh⟩
  subst hl128
  obtain ⟨jb, jo, rfl, hjb, hjc⟩ := hJH.out.2 (by omega)
  have hcl := Lib.hid (fun (w' : World) (hn' : New w1 w') => Clone_any jb jo 128 c D w' (fun j hj => ((hN1.out.next hn').cell (p := ⟨jb, jo + j, none⟩) hjb).trans (hjc j hj)) (by omega) (by omega) (Nat.lt_of_lt_of_le hjb (hN1.out.next hn').size))
  clear hjc
  have hgl := hwH.out.pt.lt
  obtain ⟨m0, m1⟩ := hD1.out.pt.cell hat
  have f0 := hD1.out.pt.frozen (at_ * 2)
  have f1 := hD1.out.pt.frozen (at_ * 2 + 1)
  have d0 := hD1.out.bk.cell 0
  simp at d0
  have hq0 : (0 : Int) ≤ (at_ : Int) := by omega
  have hq1 : (at_ : Int) < (n : Int) := by omega
  have hkeep : Hid (∀ w', New w1 w' → w'.cell? ⟨d, 0, none⟩ = some (.slice (some ⟨g, 0, none⟩) n n) ∧ w'.cell? ⟨w.heap.size, 1, none⟩ = some (.int .i64 at_) ∧ w'.cell? ⟨w.heap.size, 3, none⟩ = some (.slice (some ⟨jb, jo, none⟩) 128 c)) := fun w' hn' => ⟨(hn'.cell (lt_of_cell d0)).trans d0, (hn'.cell (lt_of_cell j1)).trans j1, (hn'.cell (lt_of_cell j3)).trans j3⟩
  go_wp2_with fail
  go_region_held3 (fun w' => w'.cell? ⟨d, 0, none⟩ = some (.slice (some ⟨g, 0, none⟩) n n) ∧ w'.cell? ⟨w.heap.size, 1, none⟩ = some (.int .i64 at_) ∧ w'.cell? ⟨w.heap.size, 3, none⟩ = some (.slice (some ⟨jb, jo, none⟩) 128 c))
    (first
      | exact hkeep.out _ (New.refl _).drew
      | assumption
      | exact hkeep.out _ hN2
      | exact hS2)
    (first
      | (go_at_call 61; refine (hcl.out _ (New.refl _).drew).mono ?_; rintro e w2 ⟨⟨sg, scap, rfl, s1, s2, s3, s4⟩, hn2⟩; have hN2 : New w1 w2 := New.next (New.refl _).drew hn2; have t0 := (hN2.cell (lt_of_cell m0)).trans m0; have t1 := (hN2.cell (lt_of_cell m1)).trans m1; have t2 := (hN2.frozen (p := ⟨g, at_ * 2, none⟩) (lt_of_cell m0)).trans f0; have t3 := (hN2.frozen (p := ⟨g, at_ * 2 + 1, none⟩) (lt_of_cell m1)).trans f1
         have hDd := (hD1.out.new hN2).put hat ⟨sg, scap, rfl, s1, s2, s3⟩
         have hkq := hkeep.out w2 hN2
         have hgd : g ≠ d := (hD1.out.setG (k := 0) (u := .bool true)).2.2.1
         have hS2 : ((w2.setCell ⟨g, at_ * 2, none⟩ (.slice (some ⟨sg, 0, none⟩) 128 scap)).setCell ⟨g, at_ * 2 + 1, none⟩ (.bool false)).cell? ⟨d, 0, none⟩ = some (.slice (some ⟨g, 0, none⟩) n n) ∧ ((w2.setCell ⟨g, at_ * 2, none⟩ (.slice (some ⟨sg, 0, none⟩) 128 scap)).setCell ⟨g, at_ * 2 + 1, none⟩ (.bool false)).cell? ⟨w.heap.size, 1, none⟩ = some (.int .i64 at_) ∧ ((w2.setCell ⟨g, at_ * 2, none⟩ (.slice (some ⟨sg, 0, none⟩) 128 scap)).setCell ⟨g, at_ * 2 + 1, none⟩ (.bool false)).cell? ⟨w.heap.size, 3, none⟩ = some (.slice (some ⟨jb, jo, none⟩) 128 c) := by
           obtain ⟨u0, u1, u2⟩ := hkq
           have hC : Chg (fun k => k = g) w2 ((w2.setCell ⟨g, at_ * 2, none⟩ (.slice (some ⟨sg, 0, none⟩) 128 scap)).setCell ⟨g, at_ * 2 + 1, none⟩ (.bool false)) := Chg.set (K := fun k => k = g) (Chg.set (K := fun k => k = g) (Chg.refl w2) (.inl rfl) _) (.inl rfl) _
           exact ⟨hC.cell u0 (fun e => hgd e.symm), hC.cell u1 (fun e => by have e : w.heap.size = g := e; omega), hC.cell u2 (fun e => by have e : w.heap.size = g := e; omega)⟩
         have hC2 : Chg (KW d g wv) w ((w2.setCell ⟨g, at_ * 2, none⟩ (.slice (some ⟨sg, 0, none⟩) 128 scap)).setCell ⟨g, at_ * 2 + 1, none⟩ (.bool false)) := Chg.set (K := KW d g wv) (Chg.set (K := KW d g wv) (Chg.of_new (hN1.out.next hN2)) (.inl (.inr (.inl rfl))) _) (.inl (.inr (.inl rfl))) _
         have hrb := ((hB1H.out.rb.new hN2).far (p := ⟨g, at_ * 2, none⟩) (fun e => by have e : w.heap.size + 1 = g := e; omega) (.slice (some ⟨sg, 0, none⟩) 128 scap)).far (p := ⟨g, at_ * 2 + 1, none⟩) (fun e => by have e : w.heap.size + 1 = g := e; omega) (.bool false)))
  obtain ⟨p1, p2, p3, p4⟩ := reply_set 0 (.slice none 0 0) hrb (Nat.le_succ _) hC2
  have x0 := p2.cell 0
  have x1 := p2.cell 1
  simp at x0 x1
  have p1H := Lib.hid p1
  have p4H := Lib.hid (p4 hDd)
  have y0 := hrb.cell 0
  have y1 := hrb.cell 1
  have y2 := hrb.frozen 0
  have y3 := hrb.frozen 1
  simp at y0 y1
  clear p1 p2 p3 p4 hDd hrb hkeep
  go_wp2_with fail
  refine bodyPost_ret (v := .agg #[.int .i64 0, .slice none 0 0]) (by simp [results, Try.results43, go_sem, x0, x1]) rfl ?_
  rw [hse.out]
  exact ⟨_, g, _, _, _, rfl, rfl, p4H.out, p1H.out⟩
end Go.Proofs.Ythjjchlibbheaaa.drive
