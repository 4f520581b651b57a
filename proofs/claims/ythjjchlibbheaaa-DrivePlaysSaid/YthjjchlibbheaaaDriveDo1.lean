/-
  Contract of Do: one job.
-/
import Derived.Test.YthjjchlibbheaaaDriveGet
namespace Go.Proofs.Ythjjchlibbheaaa.drive
open Go.ChangeShapes Go.WideShapes Go.ChangeAt Go.RowKit Go.Proofs.Ythjjchlibbheaaa.kit Go.Proofs.Ythjjchlibbheaaa.each Go.Deep
set_option linter.unusedVariables false
set_option maxRecDepth 100000
abbrev KW (d g : Nat) (wv : Value) : Nat → Prop := fun k => k = d ∨ k = g ∨ wv.ownBlock = some k
/-- what Do does -/
def DoP (base d g n : Nat) (wv : Value) (st : DS × Int × Option (Nat → Nat)) (w : World) (e : Ending) (w' : World) : Prop :=
  ∃ rv g' pv' wv' dv', e = .returned (.agg #[.int .i64 st.2.1, rv]) ∧ Dat w' rv st.2.2 ∧ Dr base d g' n st.1.pl st.1.br st.1.ws st.1.dead pv' wv' dv' w' ∧ Chg (KW d g wv) w w'
/-- the job and the answer, in their blocks -/
structure JB (w0 : World) (k a p : Int) (R : Option Addr) (l c : Nat) (W : World) : Prop where
  nw : New w0 W
  jb : Blk W w0.heap.size 93 #[.int .i64 k, .int .i64 a, .int .i64 p, .slice R l c]
  rb : Blk W (w0.heap.size + 1) 95 #[.int .i64 0, .slice none 0 0]
theorem JB.new {w0 W W' : World} {k a p : Int} {R : Option Addr} {l c : Nat} (h : JB w0 k a p R l c W) (hn : New W W') : JB w0 k a p R l c W' := ⟨h.nw.next hn, h.jb.new hn, h.rb.new hn⟩
theorem JB.start (w : World) (k a p : Int) (R : Option Addr) (l c : Nat) : JB w k a p R l c ((w.alloc (.cells #[.int .i64 k, .int .i64 a, .int .i64 p, .slice R l c] 93)).alloc (.cells #[.int .i64 0, .slice none 0 0] 95)) := by
  refine ⟨((New.refl w).alloc _).alloc _, (Blk.fresh w _ _).alloc _, ?_⟩
  have := Blk.fresh (w.alloc (.cells #[.int .i64 k, .int .i64 a, .int .i64 p, .slice R l c] 93)) 95 #[.int .i64 0, .slice none 0 0]
  simpa using this
/-- the answer is stored: what lies in the end -/
theorem reply_set {w W : World} {B : Nat} {c0 c1 : Value} (cd : Int) (v : Value) (hb : Blk W B 95 #[c0, c1]) (hB : w.heap.size ≤ B) {K : Nat → Prop} (hC : Chg K w W) :
    Chg K w ((W.setCell ⟨B, 0, none⟩ (.int .i64 cd)).setCell ⟨B, 1, none⟩ v) ∧ Blk ((W.setCell ⟨B, 0, none⟩ (.int .i64 cd)).setCell ⟨B, 1, none⟩ v) B 95 #[.int .i64 cd, v] ∧
    (∀ o u, Dat W u o → Dat ((W.setCell ⟨B, 0, none⟩ (.int .i64 cd)).setCell ⟨B, 1, none⟩ v) u o) ∧
    ∀ {base d g n : Nat} {pl : Nat → Option (Nat → Nat)} {br : Nat → Bool} {ws : List (Nat × (Nat → Nat))} {dead : Bool} {pv : Nat → Value} {wv : Value} {dv : Nat → Value}, Dr base d g n pl br ws dead pv wv dv W → Dr base d g n pl br ws dead pv wv dv ((W.setCell ⟨B, 0, none⟩ (.int .i64 cd)).setCell ⟨B, 1, none⟩ v) := by
  have g1 := grown_set W B 0 (.int .i64 cd)
  have g2 := grown_set (W.setCell ⟨B, 0, none⟩ (.int .i64 cd)) B 1 v
  have hgg : W.grownBy ((W.setCell ⟨B, 0, none⟩ (.int .i64 cd)).setCell ⟨B, 1, none⟩ v) (some B) := ⟨g2.os.trans g1.os, g2.tape.trans g1.tape, g2.output.trans g1.output, Nat.le_trans g1.size g2.size, fun k hk hne => (g2.block k (Nat.lt_of_lt_of_le hk g1.size) hne).trans (g1.block k hk hne)⟩
  have hu : ∀ b f, RowK 5 .u8 W b 128 f → (some B : Option Nat) ≠ some b := fun b f hr e => RowK.ne_blk hr hb (by decide) (Option.some.inj e)
  refine ⟨(hC.set (.inr hB) _).set (.inr hB) _, (hb.put 0 (.int .i64 cd)).put 1 v, fun o u h => h.grown hgg hu, fun {base d g n pl br ws dead pv wv dv} h => ?_⟩
  obtain ⟨cs, hc⟩ := h.pt.blk
  exact ⟨h.bk.grown hgg fun e => blk_ne hb h.bk (by decide) (Option.some.inj e), h.pt.grown hgg fun e => blk_ne hb hc (by decide) (Option.some.inj e), fun i hi => (h.pd i hi).grown hgg hu, h.wo.kept hgg (.inr (own_blk' h.wo hb (by decide))), fun i hi => (h.wd i hi).grown hgg hu, h.wi, h.lo⟩
set_option maxHeartbeats 2000000 in
theorem Do_fault (base d g n m : Nat) (s : DS) (pv : Nat → Value) (wv : Value) (dv : Nat → Value) (k a p : Int) (R : Option Addr) (l c : Nat) (D : Nat → Nat) (w : World) (h : Dr base d g n s.pl s.br s.ws s.dead pv wv dv w) (hn : n ≤ 512) (hm : s.ws.length = m) (hm3 : m < 300)
    (hJ : RdI .u8 w R l (fun i => (D i : Nat))) (hlc : l ≤ c) (hcm : c ≤ maxLen) (hb : base ≤ w.heap.size) (hf : faultC n s.dead k a l ≠ 0) :
    Calls Try.prog 43 #[.pointer (some ⟨d, 0, none⟩), jobV k a p R l c] w (DoP base d g n wv (stepS n s k a p l D) w) := by
  have hl63 : l ≤ maxLen := Nat.le_trans hlc hcm
  have hB0 := Lib.hid (JB.start w k a p R l c)
  have hD0 := h.new hB0.out.nw
  have hfa := Lib.hid (fault_any d g n wv s.dead k a p R l c _ hD0.bk hn hl63)
  obtain ⟨cd, hcd⟩ : ∃ cd, Hid (cd = faultC n s.dead k a l) := ⟨_, rfl⟩
  rw [← hcd.out] at hfa hf
  obtain ⟨st, hst⟩ : ∃ st, Hid (st = stepS n s k a p l D) := ⟨_, rfl⟩
  rw [← hst.out]
  have hD0H := Lib.hid hD0
  have hmH := Lib.hid hm
  have hJH := Lib.hid hJ
  have hwH := Lib.hid h
  have hdl := h.bk.lt
  clear hD0 h hm hJ
  have hse : Hid (st = (s, cd, none)) := by
    show _ = _
    rw [hst.out, hcd.out]
    unfold stepS
    rw [if_pos (by rw [← hcd.out]; exact hf)]
  have hcn : (cd != 0) = true := by simpa using hf
  clear hf
  go_enter Try.func43, Try.ntmps43
  go_wp2_with fail
  refine hfa.out.mono ?_
  rintro e w1 ⟨rfl, hn1⟩
  have hB1 := hB0.out.new hn1
  have hD1 := Lib.hid (hD0H.out.new hn1)
  have j0 := hB1.jb.cell 0
  have j1 := hB1.jb.cell 1
  have j3 := hB1.jb.cell 3
  have r0 := hB1.rb.cell 0
  have r1 := hB1.rb.cell 1
  have r2 := hB1.rb.frozen 0
  have r3 := hB1.rb.frozen 1
  simp at j0 j1 j3 r0 r1
  have hB1H := Lib.hid hB1
  have hN1 := Lib.hid hB1.nw
  clear hn1 hB1 hfa hB0 hD0H
  obtain ⟨p1, p2, p3, p4⟩ := reply_set cd (.slice none 0 0) hB1H.out.rb (Nat.le_succ _) (Chg.of_new (K := KW d g wv) hN1.out)
  have x0 := p2.cell 0
  have x1 := p2.cell 1
  simp at x0 x1
  have p1H := Lib.hid p1
  have p4H := Lib.hid (p4 hD1.out)
  clear p1 p2 p3 p4
  go_wp2_with fail
  refine bodyPost_ret (v := .agg #[.int .i64 cd, .slice none 0 0]) (by simp [results, Try.results43, go_sem, x0, x1]) rfl ?_
  rw [hse.out]
  exact ⟨_, g, pv, wv, dv, rfl, rfl, p4H.out, p1H.out⟩
set_option maxHeartbeats 2000000 in
theorem Do_fail (base d g n m : Nat) (s : DS) (pv : Nat → Value) (wv : Value) (dv : Nat → Value) (a p : Int) (R : Option Addr) (l c : Nat) (D : Nat → Nat) (w : World) (h : Dr base d g n s.pl s.br s.ws s.dead pv wv dv w) (hn : n ≤ 512) (hm : s.ws.length = m) (hm3 : m < 300)
    (hJ : RdI .u8 w R l (fun i => (D i : Nat))) (hlc : l ≤ c) (hcm : c ≤ maxLen) (hb : base ≤ w.heap.size) (hf : faultC n s.dead 7 a l = 0) :
    Calls Try.prog 43 #[.pointer (some ⟨d, 0, none⟩), jobV 7 a p R l c] w (DoP base d g n wv (stepS n s 7 a p l D) w) := by
  have hl63 : l ≤ maxLen := Nat.le_trans hlc hcm
  have hB0 := Lib.hid (JB.start w 7 a p R l c)
  have hD0 := h.new hB0.out.nw
  have hfa := Lib.hid (fault_any d g n wv s.dead 7 a p R l c _ hD0.bk hn hl63)
  obtain ⟨cd, hcd⟩ : ∃ cd, Hid (cd = faultC n s.dead 7 a l) := ⟨_, rfl⟩
  rw [← hcd.out] at hfa hf
  obtain ⟨st, hst⟩ : ∃ st, Hid (st = stepS n s 7 a p l D) := ⟨_, rfl⟩
  rw [← hst.out]
  have hD0H := Lib.hid hD0
  have hmH := Lib.hid hm
  have hJH := Lib.hid hJ
  have hwH := Lib.hid h
  have hdl := h.bk.lt
  clear hD0 h hm hJ
  have hse : Hid (st = ({ s with dead := true }, 0, none)) := by
    show _ = _
    rw [hst.out]
    unfold stepS
    rw [if_neg (by rw [← hcd.out, hf]; simp), if_neg (by decide), if_neg (by decide), if_neg (by decide), if_neg (by decide), if_neg (by decide), if_neg (by decide), if_pos rfl]
    all_goals rfl
  subst hf
  go_enter Try.func43, Try.ntmps43
  go_wp2_with fail
  refine hfa.out.mono ?_
  rintro e w1 ⟨rfl, hn1⟩
  have hB1 := hB0.out.new hn1
  have hD1 := Lib.hid (hD0H.out.new hn1)
  have j0 := hB1.jb.cell 0
  have j1 := hB1.jb.cell 1
  have j3 := hB1.jb.cell 3
  have r0 := hB1.rb.cell 0
  have r1 := hB1.rb.cell 1
  have r2 := hB1.rb.frozen 0
  have r3 := hB1.rb.frozen 1
  simp at j0 j1 j3 r0 r1
  have hB1H := Lib.hid hB1
  have hN1 := Lib.hid hB1.nw
  clear hn1 hB1 hfa hB0 hD0H
  have hDd := hD1.out.dies
  obtain ⟨_, gd, _, _⟩ := hD1.out.setD (k := 2) (u := .bool true)
  have hC2 : Chg (KW d g wv) w (w1.setCell ⟨d, 2, none⟩ (.bool true)) := Chg.set (K := KW d g wv) (Chg.of_new hN1.out) (.inl (.inl rfl)) _
  have hne : d ≠ w.heap.size + 1 := by omega
  have hrb := hB1H.out.rb.grown gd (fun e => hne (Option.some.inj e))
  obtain ⟨p1, p2, p3, p4⟩ := reply_set 0 (.slice none 0 0) hrb (Nat.le_succ _) hC2
  have x0 := p2.cell 0
  have x1 := p2.cell 1
  simp at x0 x1
  have p1H := Lib.hid p1
  have p4H := Lib.hid (p4 hDd)
  have y0 := hrb.cell 0
  have y1 := hrb.cell 1
  have y2 := hrb.frozen 0
  have y3 := hrb.frozen 1
  simp at y0 y1
  have d2 := hD1.out.bk.cell 2
  have d3 := hD1.out.bk.frozen 2
  simp at d2
  clear p1 p2 p3 p4 hDd hrb gd
  go_wp2_with fail
  refine bodyPost_ret (v := .agg #[.int .i64 0, .slice none 0 0]) (by simp [results, Try.results43, go_sem, x0, x1]) rfl ?_
  rw [hse.out]
  exact ⟨_, g, pv, wv, dv, rfl, rfl, p4H.out, p1H.out⟩
end Go.Proofs.Ythjjchlibbheaaa.drive
