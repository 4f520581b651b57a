/-
  Contracts of New, of the two closures, of settle.
-/
import Derived.Test.YthjjchlibbheaaaDriveSmall
import Derived.Test.YthjjchlibbheaaaEach2
namespace Go.Proofs.Ythjjchlibbheaaa.drive
open Go.ChangeShapes Go.WideShapes Go.ChangeAt Go.RowKit Go.Proofs.Ythjjchlibbheaaa.kit Go.Deep
set_option linter.unusedVariables false
set_option maxRecDepth 100000
theorem infoSec : (Try.prog.info? 156).map (fun i => (i.zero, i.size, i.bytes)) = some (some (.agg #[.slice none 0 0, .bool false]), 2, 32) := by kernel_rfl
theorem make_plate (n : Nat) (hn : n ≤ 512) (w : World) : (Instr.makeSlice 145 (.int .i64 (n : Int)) (.int .i64 (n : Int))).run Try.prog w = .ok (.slice (some ⟨w.heap.size, 0, none⟩) n n) (w.alloc (.cells (madeCells #[.slice none 0 0, .bool false] (n * 2)) 156)) := by
  obtain ⟨i0, hi0, hz0, hz1, hz2⟩ := info_parts infoSec
  have h := run_makeSlice (P := Try.prog) (w := w) 145 156 i0 _ Try.underlying145 hi0 hz0 .i64 .i64 n n (by omega) (Int.le_refl _) (by rw [hz1]; simp; omega) (by rw [hz2]; omega) (by omega)
  rw [hz1] at h
  simpa [Value.cells] using h
/-- a new drive -/
theorem New_any (n : Nat) (hn : n ≤ 512) (w : World) : Calls Try.prog 42 #[.int .i64 n] w fun e w' => e = .returned (.pointer (some ⟨w.heap.size + 1, 0, none⟩)) ∧ Dr w.heap.size (w.heap.size + 1) w.heap.size n (fun _ => none) (fun _ => false) [] false (fun _ => .slice none 0 0) (.slice none 0 0) (fun _ => .slice none 0 0) w' ∧ New w w' := by
  have hmk := make_plate n hn w
  have hP := Lib.hid (Plate.made w n)
  have hfin : Hid (Dr w.heap.size (w.heap.size + 1) w.heap.size n (fun _ => none) (fun _ => false) [] false (fun _ => .slice none 0 0) (.slice none 0 0) (fun _ => .slice none 0 0) ((w.alloc (.cells (madeCells #[.slice none 0 0, .bool false] (n * 2)) 156)).alloc (.cells #[.slice (some ⟨w.heap.size, 0, none⟩) n n, .slice none 0 0, .bool false] 148))) := by
    refine ⟨?_, hP.out.new ((New.refl _).alloc _), fun i hi => rfl, World.ownsRow_nil _ _ _ _, fun i hi => absurd hi (Nat.not_lt_zero i), fun i hi => absurd hi (Nat.not_lt_zero i), by omega⟩
    have := Blk.fresh (w.alloc (.cells (madeCells #[.slice none 0 0, .bool false] (n * 2)) 156)) 148 #[.slice (some ⟨w.heap.size, 0, none⟩) n n, .slice none 0 0, .bool false]
    simpa using this
  go_enter Try.func42, Try.ntmps42
  go_wp2
  go_ret
  exact ⟨rfl, hfin.out, ((New.refl w).alloc _).alloc _⟩
theorem all_any (k : Nat) (w : World) : Calls Try.prog 64 #[.int .i64 k] w fun e w' => e = .returned (.bool true) ∧ New w w' := by
  go_enter Try.func64, Try.ntmps64
  go_wp2
  go_ret
  exact ⟨rfl, New.refl w⟩
theorem bit_any (k jb : Nat) (kp : Int) (w : World) (hj : w.cell? ⟨jb, 2, none⟩ = some (.int .i64 kp)) (hk : k ≤ 300) : Calls Try.prog 65 #[.int .i64 k, .pointer (some ⟨jb, 0, none⟩)] w fun e w' => e = .returned (.bool (bitP kp k)) ∧ New w w' := by
  obtain ⟨s, hs⟩ : ∃ s : Nat, Hid (s = k % 62) := ⟨_, rfl⟩
  have hsi : (k : Int) % 62 = (s : Int) := by rw [hs.out]; omega
  have hs0 : (0 : Int) ≤ (s : Int) := by omega
  have hs1 : (s : Int) ≤ 64 := by have := hs.out; omega
  have hsn : min s 64 = s := by have := hs.out; omega
  have h1 := and_one (kp / 2 ^ s)
  have hb : Hid (bitP kp k = decide (kp / 2 ^ s % 2 = 1)) := by show _ = _; unfold bitP; rw [hs.out]
  go_enter Try.func65, Try.ntmps65
  go_wp2
  go_ret
  exact ⟨retb (by rw [hb.out]; rfl), New.refl w⟩
/-- whatever is not in K lies as it lay -/
structure Chg (K : Nat → Prop) (w w' : World) : Prop where
  os : w'.os = w.os
  tape : w'.tape = w.tape
  output : w'.output = w.output
  size : w.heap.size ≤ w'.heap.size
  same : ∀ k, k < w.heap.size → ¬ K k → w'.heap[k]? = w.heap[k]?
section
variable {K : Nat → Prop} {w w' w'' : World}
theorem Chg.refl (w : World) : Chg K w w := ⟨rfl, rfl, rfl, Nat.le_refl _, fun _ _ _ => rfl⟩
theorem Chg.trans (h : Chg K w w') (k : Chg K w' w'') : Chg K w w'' :=
  ⟨k.os.trans h.os, k.tape.trans h.tape, k.output.trans h.output, Nat.le_trans h.size k.size, fun i hi hK => (k.same i (Nat.lt_of_lt_of_le hi h.size) hK).trans (h.same i hi hK)⟩
theorem Chg.of_new (h : New w w') : Chg K w w' := ⟨h.os, h.tape, h.output, h.size, fun i hi _ => h.block i hi⟩
theorem Chg.next (h : Chg K w w') (k : New w' w'') : Chg K w w'' := h.trans (Chg.of_new k)
theorem Chg.grown {row : Option Nat} (h : Chg K w w') (hg : w'.grownBy w'' row) (hr : ∀ r, row = some r → K r ∨ w.heap.size ≤ r) : Chg K w w'' :=
  ⟨hg.os.trans h.os, hg.tape.trans h.tape, hg.output.trans h.output, Nat.le_trans h.size hg.size, fun i hi hK => (hg.block i (Nat.lt_of_lt_of_le hi h.size) fun e => by rcases hr i e.symm with h1 | h1; exact hK h1; omega).trans (h.same i hi hK)⟩
theorem Chg.set (h : Chg K w w') {b k : Nat} (hb : K b ∨ w.heap.size ≤ b) (u : Value) : Chg K w (w'.setCell ⟨b, k, none⟩ u) := h.grown (grown_set w' b k u) fun r e => by cases e; exact hb
theorem Chg.cell (h : Chg K w w') {a : Addr} {v : Value} (hc : w.cell? a = some v) (hK : ¬ K a.block) : w'.cell? a = some v := by
  rw [← hc]
  simp only [World.cell?, h.same _ (lt_of_cell hc) hK]
theorem Chg.below {base : Nat} (h : Chg K w w') (hb : base ≤ w.heap.size) (hK : ∀ k, K k → base ≤ k) : Below base w w' := ⟨h.os, h.tape, h.output, h.size, fun k hk => h.same k (by omega) fun hh => by have := hK k hh; omega⟩
theorem Chg.weak {K' : Nat → Prop} (h : Chg K w w') (hK : ∀ k, K k → K' k) : Chg K' w w' := ⟨h.os, h.tape, h.output, h.size, fun i hi hh => h.same i hi fun x => hh (hK i x)⟩
end
abbrev KD (d g : Nat) : Nat → Prop := fun k => k = d ∨ k = g
set_option maxHeartbeats 2000000 in
theorem settle_any (fk : FuncId) (eg : ∀ args w, (callFunc fk args).run Try.prog w = .ok (.enter fk args) w) (caps : Array Value) (so : Nat → Bool) (base d g n m : Nat) (s : DS) (pv : Nat → Value) (wv : Value) (dv : Nat → Value) (w : World)
    (h : Dr base d g n s.pl s.br s.ws s.dead pv wv dv w) (hn : n ≤ 512) (hm : s.ws.length = m) (hm3 : m ≤ 300)
    (hF : ∀ i w1, i < m → Chg (KD d g) w w1 → Calls Try.prog fk (#[.int .i64 i] ++ caps) w1 fun e w' => e = .returned (.bool (so i)) ∧ New w1 w') :
    Calls Try.prog 63 #[.pointer (some ⟨d, 0, none⟩), .func (.func fk) #[] caps] w fun e w' => (∃ v, e = .returned v) ∧ (∃ pv', Dr base d g n (settleS so s).pl (settleS so s).br [] s.dead pv' (.slice none 0 0) dv w') ∧ Chg (KD d g) w w' := by
  have hF1 := Lib.hid hF
  obtain ⟨wA, wc, rfl, hw1, hw2, hwA, hwc⟩ := own_open h.wo
  have hwcH : Hid (∀ i, i < m → ∀ gw, wA = some ⟨gw, 0, none⟩ → gw < w.heap.size ∧ w.cell? ⟨gw, i * 2, none⟩ = some (.int .i64 (s.ws.getD i noP).1) ∧ w.cell? ⟨gw, i * 2 + 1, none⟩ = some (dv i)) := fun i hi gw hgw => by
    obtain ⟨k1, k2⟩ := wsL_at s.ws dv (by omega : i < s.ws.length)
    obtain ⟨g', e1, _, e2⟩ := hwA (by omega)
    rw [hgw] at e1
    cases e1
    exact ⟨e2, hwc gw hgw _ _ k1, hwc gw hgw _ _ k2⟩
  have hneH : Hid (∀ gw, wA = some ⟨gw, 0, none⟩ → ¬ KD d g gw) := fun gw hgw hk => by
    obtain ⟨_, _, h3, h4⟩ := h.setD (k := 0) (u := .bool true)
    obtain ⟨_, _, _, h5⟩ := h.setG (k := 0) (u := .bool true)
    rw [hgw] at h4 h5
    rcases hk with rfl | rfl
    · exact h4 rfl
    · exact h5 rfl
  have hwAH := Lib.hid hwA
  have hws := settle_ws so s
  have hwi := Lib.hid h.wi
  have hH := Lib.hid h
  have c0 := h.bk.cell 1
  simp at c0
  rw [hm] at c0 hw1 hwAH
  have hmH := Lib.hid hm
  have hws := Lib.hid hws
  clear h hF hwA hwc hm
  go_enter Try.func63, Try.ntmps63
  go_wp2_with fail
  go_loopw [11] (fun x wr => ∃ (i : Nat) (pv' : Nat → Value), x = .int .i64 i ∧ i ≤ m ∧ Hid (Dr base d g n (settleN so s i).pl (settleN so s i).br s.ws s.dead pv' (.slice wA s.ws.length wc) dv wr) ∧ Hid (Chg (KD d g) w wr)) (fun x _ => m - (intOf x).toNat)
  case atStart => exact ⟨0, pv, rfl, by omega, hH, Chg.refl _⟩
  case round =>
    obtain ⟨i, pv', rfl, hi, hD, hC⟩ := hrel
    by_cases hlt : i < m
    · obtain ⟨gw, rfl, _⟩ := hwAH.out (by omega)
      obtain ⟨hgw, e0, e1⟩ := hwcH.out i hlt gw rfl
      have e0' := hC.out.cell e0 (hneH.out gw rfl)
      have e1' := hC.out.cell e1 (hneH.out gw rfl)
      obtain ⟨q, hq⟩ : ∃ q, Hid (q = s.ws.getD i noP) := ⟨_, rfl⟩
      have hqn : q.1 < n := by rw [hq.out]; exact hwi.out i (by rw [hmH.out]; exact hlt)
      have hsd := hD.out.wd i (by rw [hmH.out]; exact hlt)
      rw [← hq.out] at e0' hsd
      obtain ⟨q1, q2⟩ := q
      obtain ⟨sb, sc, hsv, hs1, hs2, hs3⟩ := hsd
      rw [hsv] at e1'
      have hil : (i : Int) < (m : Int) := by omega
      have hsH : Hid (Sd wr (.slice (some ⟨sb, 0, none⟩) 128 sc) q2) := ⟨sb, sc, rfl, hs1, hs2, hs3⟩
      clear e0 e1 hs3
      go_wp2_with fail
      refine (hF1.out i _ hlt (hC.out.next ((New.refl wr).alloc _))).mono ?_
      rintro e w3 ⟨rfl, hn3⟩
      have hn3' : New wr w3 := New.of_alloc hn3
      have hD3 := Lib.hid (hD.out.new hn3')
      have hC3 := Lib.hid (hC.out.next hn3')
      cases hb : so i with
      | false =>
        have hx : Hid (settleN so s (i + 1) = settleN so s i) := by show _ = _; rw [settleN, if_neg (by rw [hb]; simp)]
        go_wp2
        go_roundw
        case rel => exact ⟨i + 1, pv', by go_num, by omega, by rw [hx.out]; exact hD3, hC3⟩
        case measure => simp [intOf]; omega
      | true =>
        have hx : Hid (settleN so s (i + 1) = putP (settleN so s i) (q1, q2)) := by show _ = _; rw [settleN, if_pos hb, ← hq.out]
        have k0 := hD3.out.bk.cell 0
        simp at k0
        have hpb : Blk w3 wr.heap.size 152 #[.int .i64 q1, .slice (some ⟨sb, 0, none⟩) 128 sc] := (Blk.fresh wr _ _).new hn3
        have k1 := hpb.cell 0
        have k2 := hpb.cell 1
        simp at k1 k2
        obtain ⟨m0, m1⟩ := hD3.out.pt.cell hqn
        have f0 := hD3.out.pt.frozen (q1 * 2)
        have f1 := hD3.out.pt.frozen (q1 * 2 + 1)
        have hq0 : (0 : Int) ≤ (q1 : Int) := by omega
        have hq1 : (q1 : Int) < (n : Int) := by omega
        have hfin := Lib.hid (hD3.out.put hqn (hsH.out.new hn3'))
        have hCf : Hid (Chg (KD d g) w ((w3.setCell ⟨g, q1 * 2, none⟩ (.slice (some ⟨sb, 0, none⟩) 128 sc)).setCell ⟨g, q1 * 2 + 1, none⟩ (.bool false))) := (hC3.out.set (.inl (.inr rfl)) _).set (.inl (.inr rfl)) _
        clear hpb
        go_wp2_with fail
        go_region
        all_goals go_wp2
        go_roundw
        case rel => exact ⟨i + 1, _, by go_num, by omega, by rw [hx.out]; exact hfin.out.new (New.refl _).drew, hCf.out.next (New.refl _).drew⟩
        case measure => simp [intOf]; omega
    · have him : i = m := by omega
      subst him
      have k1 := hD.out.bk.cell 1
      have k2 := hD.out.bk.frozen 1
      simp at k1
      have hfin := Lib.hid (hD.out.idle)
      have hCf : Hid (Chg (KD d g) w (wr.setCell ⟨d, 1, none⟩ (.slice none 0 0))) := hC.out.set (.inl (.inl rfl)) _
      have hdd : Hid ((settleN so s i).pl = (settleS so s).pl ∧ (settleN so s i).br = (settleS so s).br) := by
        unfold settleS
        rw [hmH.out]
        exact ⟨rfl, rfl⟩
      rw [hdd.out.1, hdd.out.2] at hfin
      go_wp2
      exact Great.bodyPost_end0 rfl (by rfl) ⟨⟨_, rfl⟩, ⟨_, hfin.out⟩, hCf.out⟩
end Go.Proofs.Ythjjchlibbheaaa.drive
