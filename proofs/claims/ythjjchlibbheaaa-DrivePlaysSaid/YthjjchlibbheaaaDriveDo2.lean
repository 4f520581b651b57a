/-
  Contract of Do: jobs that change the plate.
-/
import Derived.Test.YthjjchlibbheaaaDriveDo1
namespace Go.Proofs.Ythjjchlibbheaaa.drive
open Go.ChangeShapes Go.WideShapes Go.ChangeAt Go.RowKit Go.Proofs.Ythjjchlibbheaaa.kit Go.Proofs.Ythjjchlibbheaaa.each Go.Deep
set_option linter.unusedVariables false
set_option maxRecDepth 100000
theorem Blk.chg {K : Nat → Prop} {w w' : World} {b : Nat} {t : TypeId} {cs : Array Value} (h : Blk w b t cs) (hC : Chg K w w') (hb : ¬ K b) : Blk w' b t cs := (hC.same b h.lt hb).trans h
theorem Dr.renew {base d g n d' g' : Nat} {pl : Nat → Option (Nat → Nat)} {br : Nat → Bool} {ws : List (Nat × (Nat → Nat))} {dead : Bool} {pv : Nat → Value} {wv : Value} {dv : Nat → Value} {w : World} (h : Dr base d g n pl br ws dead pv wv dv w)
    (h' : Dr base d' g' n (fun _ => none) (fun _ => false) [] false (fun _ => .slice none 0 0) (.slice none 0 0) (fun _ => .slice none 0 0) w) (hg : g' ≠ d) :
    Dr base d g' n (fun _ => none) (fun _ => false) [] false (fun _ => .slice none 0 0) (.slice none 0 0) (fun _ => .slice none 0 0) (((w.setCell ⟨d, 0, none⟩ (.slice (some ⟨g', 0, none⟩) n n)).setCell ⟨d, 1, none⟩ (.slice none 0 0)).setCell ⟨d, 2, none⟩ (.bool false)) := by
  have g1 := grown_set w d 0 (.slice (some ⟨g', 0, none⟩) n n)
  have g2 := grown_set (w.setCell ⟨d, 0, none⟩ (.slice (some ⟨g', 0, none⟩) n n)) d 1 (.slice none 0 0)
  have g3 := grown_set ((w.setCell ⟨d, 0, none⟩ (.slice (some ⟨g', 0, none⟩) n n)).setCell ⟨d, 1, none⟩ (.slice none 0 0)) d 2 (.bool false)
  have hne : (some d : Option Nat) ≠ some g' := fun e => hg (Option.some.inj e).symm
  exact ⟨((h.bk.put 0 _).put 1 _).put 2 _, ((h'.pt.grown g1 hne).grown g2 hne).grown g3 hne, fun i hi => rfl, World.ownsRow_nil _ _ _ _, fun i hi => absurd hi (Nat.not_lt_zero i), fun i hi => absurd hi (Nat.not_lt_zero i), h.lo.1, h'.lo.2⟩
set_option maxHeartbeats 2000000 in
theorem Do_renew (base d g n m : Nat) (s : DS) (pv : Nat → Value) (wv : Value) (dv : Nat → Value) (a p : Int) (R : Option Addr) (l c : Nat) (D : Nat → Nat) (w : World) (h : Dr base d g n s.pl s.br s.ws s.dead pv wv dv w) (hn : n ≤ 512) (hm : s.ws.length = m) (hm3 : m < 300)
    (hJ : RdI .u8 w R l (fun i => (D i : Nat))) (hlc : l ≤ c) (hcm : c ≤ maxLen) (hb : base ≤ w.heap.size) (hf : faultC n s.dead 8 a l = 0) :
    Calls Try.prog 43 #[.pointer (some ⟨d, 0, none⟩), jobV 8 a p R l c] w (DoP base d g n wv (stepS n s 8 a p l D) w) := by
  have hl63 : l ≤ maxLen := Nat.le_trans hlc hcm
  have hB0 := Lib.hid (JB.start w 8 a p R l c)
  have hD0 := h.new hB0.out.nw
  have hfa := Lib.hid (fault_any d g n wv s.dead 8 a p R l c _ hD0.bk hn hl63)
  obtain ⟨cd, hcd⟩ : ∃ cd, Hid (cd = faultC n s.dead 8 a l) := ⟨_, rfl⟩
  rw [← hcd.out] at hfa hf
  obtain ⟨st, hst⟩ : ∃ st, Hid (st = stepS n s 8 a p l D) := ⟨_, rfl⟩
  rw [← hst.out]
  have hD0H := Lib.hid hD0
  have hmH := Lib.hid hm
  have hJH := Lib.hid hJ
  have hwH := Lib.hid h
  have hdl := h.bk.lt
  clear hD0 h hm hJ
  have hse : Hid (st = (DS.fresh, 0, none)) := by
    show _ = _
    rw [hst.out]
    unfold stepS
    rw [if_neg (by rw [← hcd.out, hf]; simp), if_neg (by decide), if_neg (by decide), if_neg (by decide), if_neg (by decide), if_neg (by decide), if_neg (by decide), if_neg (by decide)]
    all_goals rfl
  subst hf
  go_enter Try.func43, Try.ntmps43
  go_wp2_with fail
  refine hfa.out.mono ?_
  rintro e w1 ⟨rfl, hn1⟩
  have hB1 := hB0.out.new hn1
  have hD1 := Lib.hid (hD0H.out.new hn1)
  have j0 := hB1.jb.cell 0
  have j1 := hB1.jb.cell 1
  have j3 := hB1.jb.cell 3
  have r0 := hB1.rb.cell 0
  have r1 := hB1.rb.cell 1
  have r2 := hB1.rb.frozen 0
  have r3 := hB1.rb.frozen 1
  simp at j0 j1 j3 r0 r1
  have hB1H := Lib.hid hB1
  have hN1 := Lib.hid hB1.nw
  clear hn1 hB1 hfa hB0 hD0H
  have hgl := hwH.out.pt.lt
  have d0 := hD1.out.bk.cell 0
  simp at d0
  go_wp2_with fail
  refine (New_any n hn _).mono ?_
  rintro e w2 ⟨rfl, hDn, hn2⟩
  have hDo := hD1.out.new hn2
  have hz1 := hN1.out.size
  have hDn' : Dr base (w1.heap.size + 1) w1.heap.size n (fun _ => none) (fun _ => false) [] false (fun _ => .slice none 0 0) (.slice none 0 0) (fun _ => .slice none 0 0) w2 := ⟨hDn.bk, hDn.pt, hDn.pd, World.ownsRow_nil _ _ _ _, hDn.wd, hDn.wi, by omega⟩
  have hDd := hDo.renew hDn' (by omega)
  have hC2 : Chg (KW d g wv) w (((w2.setCell ⟨d, 0, none⟩ (.slice (some ⟨w1.heap.size, 0, none⟩) n n)).setCell ⟨d, 1, none⟩ (.slice none 0 0)).setCell ⟨d, 2, none⟩ (.bool false)) := Chg.set (K := KW d g wv) (Chg.set (K := KW d g wv) (Chg.set (K := KW d g wv) (Chg.of_new (hN1.out.next hn2)) (.inl (.inl rfl)) _) (.inl (.inl rfl)) _) (.inl (.inl rfl)) _
  have hne : d ≠ w.heap.size + 1 := by omega
  have hrb := (((hB1H.out.rb.new hn2).far (p := ⟨d, 0, none⟩) (fun e => hne e.symm) (.slice (some ⟨w1.heap.size, 0, none⟩) n n)).far (p := ⟨d, 1, none⟩) (fun e => hne e.symm) (.slice none 0 0)).far (p := ⟨d, 2, none⟩) (fun e => hne e.symm) (.bool false)
  have e0 := hDn.bk.cell 0
  have e1 := hDn.bk.cell 1
  have e2 := hDn.bk.cell 2
  have f0 := hDo.bk.cell 0
  have f1 := hDo.bk.cell 1
  have f2 := hDo.bk.cell 2
  have f3 := hDo.bk.frozen 0
  have f4 := hDo.bk.frozen 1
  have f5 := hDo.bk.frozen 2
  simp at e0 e1 e2 f0 f1 f2
  obtain ⟨p1, p2, p3, p4⟩ := reply_set 0 (.slice none 0 0) hrb (Nat.le_succ _) hC2
  have x0 := p2.cell 0
  have x1 := p2.cell 1
  simp at x0 x1
  have p1H := Lib.hid p1
  have p4H := Lib.hid (p4 hDd)
  have y0 := hrb.cell 0
  have y1 := hrb.cell 1
  have y2 := hrb.frozen 0
  have y3 := hrb.frozen 1
  simp at y0 y1
  clear p1 p2 p3 p4 hDd hrb hDn hDn' hDo hn2
  go_wp2_with fail
  refine bodyPost_ret (v := .agg #[.int .i64 0, .slice none 0 0]) (by simp [results, Try.results43, go_sem, x0, x1]) rfl ?_
  rw [hse.out]
  exact ⟨_, w1.heap.size, _, _, _, rfl, rfl, p4H.out, p1H.out⟩
set_option maxHeartbeats 2000000 in
theorem Do_flush (base d g n m : Nat) (s : DS) (pv : Nat → Value) (wv : Value) (dv : Nat → Value) (a p : Int) (R : Option Addr) (l c : Nat) (D : Nat → Nat) (w : World) (h : Dr base d g n s.pl s.br s.ws s.dead pv wv dv w) (hn : n ≤ 512) (hm : s.ws.length = m) (hm3 : m < 300)
    (hJ : RdI .u8 w R l (fun i => (D i : Nat))) (hlc : l ≤ c) (hcm : c ≤ maxLen) (hb : base ≤ w.heap.size) (hf : faultC n s.dead 3 a l = 0) :
    Calls Try.prog 43 #[.pointer (some ⟨d, 0, none⟩), jobV 3 a p R l c] w (DoP base d g n wv (stepS n s 3 a p l D) w) := by
  have hl63 : l ≤ maxLen := Nat.le_trans hlc hcm
  have hB0 := Lib.hid (JB.start w 3 a p R l c)
  have hD0 := h.new hB0.out.nw
  have hfa := Lib.hid (fault_any d g n wv s.dead 3 a p R l c _ hD0.bk hn hl63)
  obtain ⟨cd, hcd⟩ : ∃ cd, Hid (cd = faultC n s.dead 3 a l) := ⟨_, rfl⟩
  rw [← hcd.out] at hfa hf
  obtain ⟨st, hst⟩ : ∃ st, Hid (st = stepS n s 3 a p l D) := ⟨_, rfl⟩
  rw [← hst.out]
  have hD0H := Lib.hid hD0
  have hmH := Lib.hid hm
  have hJH := Lib.hid hJ
  have hwH := Lib.hid h
  have hdl := h.bk.lt
  clear hD0 h hm hJ
  have hse : Hid (st = (settleS (fun _ => true) s, 0, none)) := by
    show _ = _
    rw [hst.out]
    unfold stepS
    rw [if_neg (by rw [← hcd.out, hf]; simp), if_neg (by decide), if_neg (by decide), if_pos rfl]
    all_goals rfl
  subst hf
  go_enter Try.func43, Try.ntmps43
  go_wp2_with fail
  refine hfa.out.mono ?_
  rintro e w1 ⟨rfl, hn1⟩
  have hB1 := hB0.out.new hn1
  have hD1 := Lib.hid (hD0H.out.new hn1)
  have j0 := hB1.jb.cell 0
  have j1 := hB1.jb.cell 1
  have j3 := hB1.jb.cell 3
  have r0 := hB1.rb.cell 0
  have r1 := hB1.rb.cell 1
  have r2 := hB1.rb.frozen 0
  have r3 := hB1.rb.frozen 1
  simp at j0 j1 j3 r0 r1
  have hB1H := Lib.hid hB1
  have hN1 := Lib.hid hB1.nw
  clear hn1 hB1 hfa hB0 hD0H
  have hgl := hwH.out.pt.lt
  go_wp2_with fail
  refine (settle_any 64 (enters_of Try.func64 (by kernel_rfl) rfl) #[] (fun _ => true) base d g n m s pv wv dv w1 hD1.out hn hmH.out (by omega) (fun i w2 hi hC => all_any i w2)).mono ?_
  rintro e w2 ⟨⟨vv, rfl⟩, ⟨pv', hDd⟩, hCs⟩
  have hC2 : Chg (KW d g wv) w w2 := (Chg.of_new (K := KW d g wv) hN1.out).trans (hCs.weak fun k hk => hk.imp id .inl)
  have hrb := Blk.chg hB1H.out.rb hCs (fun hk => by rcases hk with hk | hk <;> omega)
  obtain ⟨p1, p2, p3, p4⟩ := reply_set 0 (.slice none 0 0) hrb (Nat.le_succ _) hC2
  have x0 := p2.cell 0
  have x1 := p2.cell 1
  simp at x0 x1
  have p1H := Lib.hid p1
  have p4H := Lib.hid (p4 hDd)
  have y0 := hrb.cell 0
  have y1 := hrb.cell 1
  have y2 := hrb.frozen 0
  have y3 := hrb.frozen 1
  simp at y0 y1
  clear p1 p2 p3 p4 hDd hrb hCs
  go_wp2_with fail
  refine bodyPost_ret (v := .agg #[.int .i64 0, .slice none 0 0]) (by simp [results, Try.results43, go_sem, x0, x1]) rfl ?_
  rw [hse.out]
  have hset : (settleS (fun _ => true) s).ws = [] ∧ (settleS (fun _ => true) s).dead = s.dead := ⟨rfl, settle_dead _ _ _⟩
  rw [← hset.2] at p4H
  exact ⟨_, g, _, _, _, rfl, rfl, p4H.out, p1H.out⟩
set_option maxHeartbeats 2000000 in
theorem Do_crash (base d g n m : Nat) (s : DS) (pv : Nat → Value) (wv : Value) (dv : Nat → Value) (a p : Int) (R : Option Addr) (l c : Nat) (D : Nat → Nat) (w : World) (h : Dr base d g n s.pl s.br s.ws s.dead pv wv dv w) (hn : n ≤ 512) (hm : s.ws.length = m) (hm3 : m < 300)
    (hJ : RdI .u8 w R l (fun i => (D i : Nat))) (hlc : l ≤ c) (hcm : c ≤ maxLen) (hb : base ≤ w.heap.size) (hf : faultC n s.dead 4 a l = 0) :
    Calls Try.prog 43 #[.pointer (some ⟨d, 0, none⟩), jobV 4 a p R l c] w (DoP base d g n wv (stepS n s 4 a p l D) w) := by
  have hl63 : l ≤ maxLen := Nat.le_trans hlc hcm
  have hB0 := Lib.hid (JB.start w 4 a p R l c)
  have hD0 := h.new hB0.out.nw
  have hfa := Lib.hid (fault_any d g n wv s.dead 4 a p R l c _ hD0.bk hn hl63)
  obtain ⟨cd, hcd⟩ : ∃ cd, Hid (cd = faultC n s.dead 4 a l) := ⟨_, rfl⟩
  rw [← hcd.out] at hfa hf
  obtain ⟨st, hst⟩ : ∃ st, Hid (st = stepS n s 4 a p l D) := ⟨_, rfl⟩
  rw [← hst.out]
  have hD0H := Lib.hid hD0
  have hmH := Lib.hid hm
  have hJH := Lib.hid hJ
  have hwH := Lib.hid h
  have hdl := h.bk.lt
  clear hD0 h hm hJ
  have hse : Hid (st = (settleS (bitP p) s, 0, none)) := by
    show _ = _
    rw [hst.out]
    unfold stepS
    rw [if_neg (by rw [← hcd.out, hf]; simp), if_neg (by decide), if_neg (by decide), if_neg (by decide), if_pos rfl]
    all_goals rfl
  subst hf
  go_enter Try.func43, Try.ntmps43
  go_wp2_with fail
  refine hfa.out.mono ?_
  rintro e w1 ⟨rfl, hn1⟩
  have hB1 := hB0.out.new hn1
  have hD1 := Lib.hid (hD0H.out.new hn1)
  have j0 := hB1.jb.cell 0
  have j1 := hB1.jb.cell 1
  have j3 := hB1.jb.cell 3
  have r0 := hB1.rb.cell 0
  have r1 := hB1.rb.cell 1
  have r2 := hB1.rb.frozen 0
  have r3 := hB1.rb.frozen 1
  simp at j0 j1 j3 r0 r1
  have hB1H := Lib.hid hB1
  have hN1 := Lib.hid hB1.nw
  clear hn1 hB1 hfa hB0 hD0H
  have hgl := hwH.out.pt.lt
  go_wp2_with fail
  refine (settle_any 65 (enters_of Try.func65 (by kernel_rfl) rfl) #[.pointer (some ⟨w.heap.size, 0, none⟩)] (bitP p) base d g n m s pv wv dv w1 hD1.out hn hmH.out (by omega) (fun i w2 hi hC => bit_any i w.heap.size p w2 ((hC.cell (a := ⟨w.heap.size, 2, none⟩) (by have := hB1H.out.jb.cell 2; simpa using this) (fun hk => by rcases hk with hk | hk <;> (simp at hk; omega)))) (by omega))).mono ?_
  rintro e w2 ⟨⟨vv, rfl⟩, ⟨pv', hDd⟩, hCs⟩
  have hC2 : Chg (KW d g wv) w w2 := (Chg.of_new (K := KW d g wv) hN1.out).trans (hCs.weak fun k hk => hk.imp id .inl)
  have hrb := Blk.chg hB1H.out.rb hCs (fun hk => by rcases hk with hk | hk <;> omega)
  obtain ⟨p1, p2, p3, p4⟩ := reply_set 0 (.slice none 0 0) hrb (Nat.le_succ _) hC2
  have x0 := p2.cell 0
  have x1 := p2.cell 1
  simp at x0 x1
  have p1H := Lib.hid p1
  have p4H := Lib.hid (p4 hDd)
  have y0 := hrb.cell 0
  have y1 := hrb.cell 1
  have y2 := hrb.frozen 0
  have y3 := hrb.frozen 1
  simp at y0 y1
  clear p1 p2 p3 p4 hDd hrb hCs
  go_wp2_with fail
  refine bodyPost_ret (v := .agg #[.int .i64 0, .slice none 0 0]) (by simp [results, Try.results43, go_sem, x0, x1]) rfl ?_
  rw [hse.out]
  have hset : (settleS (bitP p) s).ws = [] ∧ (settleS (bitP p) s).dead = s.dead := ⟨rfl, settle_dead _ _ _⟩
  rw [← hset.2] at p4H
  exact ⟨_, g, _, _, _, rfl, rfl, p4H.out, p1H.out⟩
set_option maxHeartbeats 2000000 in
theorem Do_break (base d g n m : Nat) (s : DS) (pv : Nat → Value) (wv : Value) (dv : Nat → Value) (at_ : Nat) (p : Int) (R : Option Addr) (l c : Nat) (D : Nat → Nat) (w : World) (h : Dr base d g n s.pl s.br s.ws s.dead pv wv dv w) (hn : n ≤ 512) (hm : s.ws.length = m) (hm3 : m < 300)
    (hJ : RdI .u8 w R l (fun i => (D i : Nat))) (hlc : l ≤ c) (hcm : c ≤ maxLen) (hb : base ≤ w.heap.size) (hat : at_ < n) (hf : faultC n s.dead 5 at_ l = 0) :
    Calls Try.prog 43 #[.pointer (some ⟨d, 0, none⟩), jobV 5 at_ p R l c] w (DoP base d g n wv (stepS n s 5 at_ p l D) w) := by
  have hl63 : l ≤ maxLen := Nat.le_trans hlc hcm
  have hB0 := Lib.hid (JB.start w 5 at_ p R l c)
  have hD0 := h.new hB0.out.nw
  have hfa := Lib.hid (fault_any d g n wv s.dead 5 at_ p R l c _ hD0.bk hn hl63)
  obtain ⟨cd, hcd⟩ : ∃ cd, Hid (cd = faultC n s.dead 5 at_ l) := ⟨_, rfl⟩
  rw [← hcd.out] at hfa hf
  obtain ⟨st, hst⟩ : ∃ st, Hid (st = stepS n s 5 at_ p l D) := ⟨_, rfl⟩
  rw [← hst.out]
  have hD0H := Lib.hid hD0
  have hmH := Lib.hid hm
  have hJH := Lib.hid hJ
  have hwH := Lib.hid h
  have hdl := h.bk.lt
  clear hD0 h hm hJ
  have hse : Hid (st = ({ s with br := fun i => if i = at_ then true else s.br i }, 0, none)) := by
    show _ = _
    rw [hst.out]
    unfold stepS
    rw [if_neg (by rw [← hcd.out, hf]; simp), if_neg (by decide), if_neg (by decide), if_neg (by decide), if_neg (by decide), if_pos rfl]
    all_goals rfl
  subst hf
  go_enter Try.func43, Try.ntmps43
  go_wp2_with fail
  refine hfa.out.mono ?_
  rintro e w1 ⟨rfl, hn1⟩
  have hB1 := hB0.out.new hn1
  have hD1 := Lib.hid (hD0H.out.new hn1)
  have j0 := hB1.jb.cell 0
  have j1 := hB1.jb.cell 1
  have j3 := hB1.jb.cell 3
  have r0 := hB1.rb.cell 0
  have r1 := hB1.rb.cell 1
  have r2 := hB1.rb.frozen 0
  have r3 := hB1.rb.frozen 1
  simp at j0 j1 j3 r0 r1
  have hB1H := Lib.hid hB1
  have hN1 := Lib.hid hB1.nw
  clear hn1 hB1 hfa hB0 hD0H
  have hgl := hwH.out.pt.lt
  have hDd := hD1.out.breaks hat true
  obtain ⟨m0, m1⟩ := hD1.out.pt.cell hat
  have f1 := hD1.out.pt.frozen (at_ * 2 + 1)
  have d0 := hD1.out.bk.cell 0
  simp at d0
  have hq0 : (0 : Int) ≤ (at_ : Int) := by omega
  have hq1 : (at_ : Int) < (n : Int) := by omega
  have hC2 : Chg (KW d g wv) w (w1.setCell ⟨g, at_ * 2 + 1, none⟩ (.bool true)) := Chg.set (K := KW d g wv) (Chg.of_new hN1.out) (.inl (.inr (.inl rfl))) _
  have hrb := hB1H.out.rb.far (p := ⟨g, at_ * 2 + 1, none⟩) (fun e => by have e : w.heap.size + 1 = g := e; omega) (.bool true)
  obtain ⟨p1, p2, p3, p4⟩ := reply_set 0 (.slice none 0 0) hrb (Nat.le_succ _) hC2
  have x0 := p2.cell 0
  have x1 := p2.cell 1
  simp at x0 x1
  have p1H := Lib.hid p1
  have p4H := Lib.hid (p4 hDd)
  have y0 := hrb.cell 0
  have y1 := hrb.cell 1
  have y2 := hrb.frozen 0
  have y3 := hrb.frozen 1
  simp at y0 y1
  clear p1 p2 p3 p4 hDd hrb
  go_wp2_with fail
  go_region
  all_goals go_wp2
  refine bodyPost_ret (v := .agg #[.int .i64 0, .slice none 0 0]) (by simp [results, Try.results43, go_sem, x0, x1]) rfl ?_
  rw [hse.out]
  exact ⟨_, g, _, _, _, rfl, rfl, p4H.out.new (New.refl _).drew, p1H.out.next (New.refl _).drew⟩
set_option maxHeartbeats 2000000 in
theorem Do_get (base d g n m : Nat) (s : DS) (pv : Nat → Value) (wv : Value) (dv : Nat → Value) (at_ : Nat) (p : Int) (R : Option Addr) (l c : Nat) (D : Nat → Nat) (w : World) (h : Dr base d g n s.pl s.br s.ws s.dead pv wv dv w) (hn : n ≤ 512) (hm : s.ws.length = m) (hm3 : m < 300)
    (hJ : RdI .u8 w R l (fun i => (D i : Nat))) (hlc : l ≤ c) (hcm : c ≤ maxLen) (hb : base ≤ w.heap.size) (hat : at_ < n) (hf : faultC n s.dead 2 at_ l = 0) :
    Calls Try.prog 43 #[.pointer (some ⟨d, 0, none⟩), jobV 2 at_ p R l c] w (DoP base d g n wv (stepS n s 2 at_ p l D) w) := by
  have hl63 : l ≤ maxLen := Nat.le_trans hlc hcm
  have hB0 := Lib.hid (JB.start w 2 at_ p R l c)
  have hD0 := h.new hB0.out.nw
  have hfa := Lib.hid (fault_any d g n wv s.dead 2 at_ p R l c _ hD0.bk hn hl63)
  obtain ⟨cd, hcd⟩ : ∃ cd, Hid (cd = faultC n s.dead 2 at_ l) := ⟨_, rfl⟩
  rw [← hcd.out] at hfa hf
  obtain ⟨st, hst⟩ : ∃ st, Hid (st = stepS n s 2 at_ p l D) := ⟨_, rfl⟩
  rw [← hst.out]
  have hD0H := Lib.hid hD0
  have hmH := Lib.hid hm
  have hJH := Lib.hid hJ
  have hwH := Lib.hid h
  have hdl := h.bk.lt
  clear hD0 h hm hJ
  have hse : Hid (st = (s, getS s at_)) := by
    show _ = _
    rw [hst.out]
    unfold stepS
    rw [if_neg (by rw [← hcd.out, hf]; simp), if_neg (by decide), if_pos rfl]
    all_goals rfl
  subst hf
  go_enter Try.func43, Try.ntmps43
  go_wp2_with fail
  refine hfa.out.mono ?_
  rintro e w1 ⟨rfl, hn1⟩
  have hB1 := hB0.out.new hn1
  have hD1 := Lib.hid (hD0H.out.new hn1)
  have j0 := hB1.jb.cell 0
  have j1 := hB1.jb.cell 1
  have j3 := hB1.jb.cell 3
  have r0 := hB1.rb.cell 0
  have r1 := hB1.rb.cell 1
  have r2 := hB1.rb.frozen 0
  have r3 := hB1.rb.frozen 1
  simp at j0 j1 j3 r0 r1
  have hB1H := Lib.hid hB1
  have hN1 := Lib.hid hB1.nw
  clear hn1 hB1 hfa hB0 hD0H
  have hgt := Lib.hid (get_any base d g n m at_ s pv wv dv w1 hD1.out hat hn hmH.out (by omega))
  obtain ⟨rr, hrr⟩ : ∃ rr, Hid (rr = getS s at_) := ⟨_, rfl⟩
  rw [← hrr.out] at hgt hse
  obtain ⟨rc, ro⟩ := rr
  go_wp2_with fail
  refine hgt.out.mono ?_
  rintro e w2 ⟨⟨rv, rfl, hdat⟩, hn2⟩
  have hC2 : Chg (KW d g wv) w w2 := Chg.of_new (hN1.out.next hn2)
  have hrb := hB1H.out.rb.new hn2
  have hDd := hD1.out.new hn2
  have hrv : rv = .slice none 0 0 ∨ ∃ b c, rv = .slice (some ⟨b, 0, none⟩) 128 c := by
    cases ro with
    | none => exact .inl hdat
    | some F => obtain ⟨b, c, e, _⟩ := hdat; exact .inr ⟨b, c, e⟩
  obtain ⟨p1, p2, p3, p4⟩ := reply_set rc rv hrb (Nat.le_succ _) hC2
  have x0 := p2.cell 0
  have x1 := p2.cell 1
  simp at x0 x1
  have p1H := Lib.hid p1
  have p3H := Lib.hid (p3 _ _ hdat)
  have p4H := Lib.hid (p4 hDd)
  have y0 := hrb.cell 0
  have y1 := hrb.cell 1
  have y2 := hrb.frozen 0
  have y3 := hrb.frozen 1
  simp at y0 y1
  clear p1 p2 p3 p4 hDd hrb hdat
  rcases hrv with rfl | ⟨b, c, rfl⟩
  · go_wp2_with fail
    refine bodyPost_ret (v := .agg #[.int .i64 rc, .slice none 0 0]) (by simp [results, Try.results43, go_sem, x0, x1]) rfl ?_
    rw [hse.out]
    exact ⟨_, g, _, _, _, rfl, p3H.out, p4H.out, p1H.out⟩
  · go_wp2_with fail
    refine bodyPost_ret (v := .agg #[.int .i64 rc, .slice (some ⟨b, 0, none⟩) 128 c]) (by simp [results, Try.results43, go_sem, x0, x1]) rfl ?_
    rw [hse.out]
    exact ⟨_, g, _, _, _, rfl, p3H.out, p4H.out, p1H.out⟩
end Go.Proofs.Ythjjchlibbheaaa.drive
