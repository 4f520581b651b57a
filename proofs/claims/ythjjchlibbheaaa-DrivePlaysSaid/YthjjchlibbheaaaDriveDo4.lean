/-
  Contract of Do: a job that waits; all jobs.
-/
import Derived.Test.YthjjchlibbheaaaDriveDo3
namespace Go.Proofs.Ythjjchlibbheaaa.drive
open Go.ChangeShapes Go.WideShapes Go.ChangeAt Go.RowKit Go.Proofs.Ythjjchlibbheaaa.kit Go.Proofs.Ythjjchlibbheaaa.each Go.Deep
set_option linter.unusedVariables false
set_option maxRecDepth 100000
theorem infoPut : (Try.prog.info? 152).map (fun i => (i.zero, i.size, i.bytes)) = some (some (.agg #[.int .i64 0, .slice none 0 0]), 2, 32) := by kernel_rfl
theorem getD_more (ws : List (Nat × (Nat → Nat))) (q : Nat × (Nat → Nat)) (i : Nat) (hi : i < ws.length + 1) : (ws ++ [q]).getD i noP = if i = ws.length then q else ws.getD i noP := by
  by_cases e : i = ws.length
  · subst e
    simp [List.getD]
  · rw [if_neg e]
    simp [List.getD, List.getElem?_append_left (show i < ws.length by omega)]
theorem Dr.push {base d g n : Nat} {pl : Nat → Option (Nat → Nat)} {br : Nat → Bool} {ws : List (Nat × (Nat → Nat))} {dead : Bool} {pv : Nat → Value} {wv : Value} {dv : Nat → Value} {w w7 : World} {q : Nat × (Nat → Nat)} {v : Value} {o : Obj} {g7 c7 : Nat}
    (h : Dr base d g n pl br ws dead pv wv dv w) (hown : w7.ownsRow base 152 2 (.slice (some ⟨g7, 0, none⟩) (ws.length + 1) c7) (ws.length + 1) (wsL ws dv ++ [.int .i64 q.1, v])) (hgr : (w.alloc o).grownBy w7 wv.ownBlock) (hv : Sd w v q.2) (hq : q.1 < n) :
    Dr base d g n pl br (ws ++ [q]) dead pv (.slice (some ⟨g7, 0, none⟩) (ws.length + 1) c7) (fun i => if i = ws.length then v else dv i) (w7.setCell ⟨d, 1, none⟩ (.slice (some ⟨g7, 0, none⟩) (ws.length + 1) c7)) ∧ w7.cell? ⟨d, 1, none⟩ = some wv ∧ w7.frozen? ⟨d, 1, none⟩ = false := by
  have ha := h.new ((New.refl w).alloc o)
  have hb7 := ha.bk.grown hgr (own_blk' ha.wo ha.bk (by decide))
  obtain ⟨cs, hc⟩ := ha.pt.blk
  have hp7 := ha.pt.grown hgr (own_blk' ha.wo hc (by decide))
  have hc7 := Blk.grown hc hgr (own_blk' ha.wo hc (by decide))
  have hu : ∀ b f, RowK 5 .u8 (w.alloc o) b 128 f → wv.ownBlock ≠ some b := fun b f hr => hr.ne_own ha.wo (by decide)
  have gs := grown_set w7 d 1 (.slice (some ⟨g7, 0, none⟩) (ws.length + 1) c7)
  have hud : ∀ b f, RowK 5 .u8 w7 b 128 f → (some d : Option Nat) ≠ some b := fun b f hr e => RowK.ne_blk hr hb7 (by decide) (Option.some.inj e)
  refine ⟨⟨hb7.put 1 _, hp7.grown gs fun e => blk_ne hb7 hc7 (by decide) (Option.some.inj e), fun i hi => ((ha.pd i hi).grown hgr hu).grown gs hud, ?_, fun i hi => ?_, fun i hi => ?_, h.lo⟩, by simpa using hb7.cell 1, hb7.frozen 1⟩
  · rw [List.length_append, wsL_more]
    refine World.ownsRow.kept hown gs (.inr fun e => ?_)
    exact own_blk' hown hb7 (by decide) e
  · rw [List.length_append] at hi
    rw [getD_more ws q i hi]
    by_cases e : i = ws.length
    · subst e
      simp only [if_true]
      exact ((hv.new ((New.refl w).alloc o)).grown hgr hu).grown gs hud
    · simp only [if_neg e]
      exact ((ha.wd i (by simp at hi; omega)).grown hgr hu).grown gs hud
  · rw [List.length_append] at hi
    rw [getD_more ws q i hi]
    by_cases e : i = ws.length
    · rw [if_pos e]; exact hq
    · rw [if_neg e]; exact h.wi i (by simp at hi; omega)
set_option maxHeartbeats 2000000 in
theorem Do_put (base d g n m : Nat) (s : DS) (pv : Nat → Value) (wv : Value) (dv : Nat → Value) (at_ : Nat) (p : Int) (R : Option Addr) (l c : Nat) (D : Nat → Nat) (w : World) (h : Dr base d g n s.pl s.br s.ws s.dead pv wv dv w) (hn : n ≤ 512) (hm : s.ws.length = m) (hm3 : m < 300)
    (hJ : RdI .u8 w R l (fun i => (D i : Nat))) (hlc : l ≤ c) (hcm : c ≤ maxLen) (hb : base ≤ w.heap.size) (hat : at_ < n) (hf : faultC n s.dead 1 at_ l = 0) :
    Calls Try.prog 43 #[.pointer (some ⟨d, 0, none⟩), jobV 1 at_ p R l c] w (DoP base d g n wv (stepS n s 1 at_ p l D) w) := by
  have hl63 : l ≤ maxLen := Nat.le_trans hlc hcm
  have hB0 := Lib.hid (JB.start w 1 at_ p R l c)
  have hD0 := h.new hB0.out.nw
  have hfa := Lib.hid (fault_any d g n wv s.dead 1 at_ p R l c _ hD0.bk hn hl63)
  obtain ⟨cd, hcd⟩ : ∃ cd, Hid (cd = faultC n s.dead 1 at_ l) := ⟨_, rfl⟩
  rw [← hcd.out] at hfa hf
  obtain ⟨st, hst⟩ : ∃ st, Hid (st = stepS n s 1 at_ p l D) := ⟨_, rfl⟩
  rw [← hst.out]
  have hD0H := Lib.hid hD0
  have hmH := Lib.hid hm
  have hJH := Lib.hid hJ
  have hwH := Lib.hid h
  have hdl := h.bk.lt
  clear hD0 h hm hJ
  have hse : Hid (st = ({ s with ws := s.ws ++ [(at_, D)] }, 0, none)) := by
    show _ = _
    rw [hst.out]
    unfold stepS
    rw [if_neg (by rw [← hcd.out, hf]; simp), if_pos rfl]
    all_goals rfl
  subst hf
  go_enter Try.func43, Try.ntmps43
  go_wp2_with fail
  refine hfa.out.mono ?_
  rintro e w1 ⟨rfl, hn1⟩
  have hB1 := hB0.out.new hn1
  have hD1 := Lib.hid (hD0H.out.new hn1)
  have j0 := hB1.jb.cell 0
  have j1 := hB1.jb.cell 1
  have j3 := hB1.jb.cell 3
  have r0 := hB1.rb.cell 0
  have r1 := hB1.rb.cell 1
  have r2 := hB1.rb.frozen 0
  have r3 := hB1.rb.frozen 1
  simp at j0 j1 j3 r0 r1
  have hB1H := Lib.hid hB1
  have hN1 := Lib.hid hB1.nw
  clear hn1 hB1 hfa hB0 hD0H
  have hl128 : l = 128 := by
    have h1 := hcd.out
    unfold faultC at h1
    split at h1
    · cases h1
    split at h1
    · cases h1
    split at h1
    · cases h1
    split at h1
    · cases h1
    · rename_i hx
      exact Decidable.not_not.1 fun hh => hx ⟨by decide, hh⟩
  subst hl128
  obtain ⟨jb, jo, rfl, hjb, hjc⟩ := hJH.out.2 (by omega)
  have hcl := Lib.hid (fun (w' : World) (hn' : New w1 w') => Clone_any jb jo 128 c D w' (fun j hj => ((hN1.out.next hn').cell (p := ⟨jb, jo + j, none⟩) hjb).trans (hjc j hj)) (by omega) (by omega) (Nat.lt_of_lt_of_le hjb (hN1.out.next hn').size))
  clear hjc
  obtain ⟨i0, hi0, hz0, hz1, hz2⟩ := info_parts infoPut
  have hgl := hwH.out.pt.lt
  have d1 := hD1.out.bk.cell 1
  simp at d1
  have hwo := hD1.out.wo
  have hkeep : Hid (∀ w', New w1 w' → w'.cell? ⟨w.heap.size, 1, none⟩ = some (.int .i64 at_) ∧ w'.cell? ⟨w.heap.size, 3, none⟩ = some (.slice (some ⟨jb, jo, none⟩) 128 c)) := fun w' hn' => ⟨(hn'.cell (lt_of_cell j1)).trans j1, (hn'.cell (lt_of_cell j3)).trans j3⟩
  have hsz1 := hN1.out.size
  go_wp2_with fail
  go_region_law
    (first
      | (go_simp; go_at_call 61; refine (hcl.out _ (New.refl _).drew).mono ?_; rintro e w2 ⟨⟨sg, scap, rfl, s1, s2, s3, s4⟩, hn2⟩; have hN2 : New w1 w2 := New.next (New.refl _).drew hn2; have t1 := (hN2.cell (lt_of_cell d1)).trans d1; have t1' := (hN2.cell (lt_of_cell j1)).trans j1; have t2 := ((hN2.alloc (.cells #[.int .i64 at_, .slice (some ⟨sg, 0, none⟩) 128 scap] 152)).cell (lt_of_cell d1)).trans d1; have hD2 := hD1.out.new hN2; have hwo2 := hD2.wo; have hsz2 := hN2.size)
      | (refine step_append_lies _ (by rfl) _ _ 146 (by rfl) base 152 i0 _ 2 32 Try.underlying146 hi0 hz0 hz1 hz2 rfl (by decide) wv s.ws.length (wsL s.ws dv) (by rfl) (hwo2.alloc _) ⟨w2.heap.size, 0, none⟩ 1 1 [.int .i64 at_, .slice (some ⟨sg, 0, none⟩) 128 scap] (by rfl) (by rfl) (World.news_of_block (cs := #[.int .i64 _, .slice _ _ _]) (t := 152) (fr := (0, 0)) (heap_alloc_new w2 _)) (by simp [Value.oneCell']) (by omega) (by have := hmH.out; unfold maxLen; omega) (by have := hmH.out; omega) (by simp; omega) (w2.heap.size + 1) (by simp) ?_; intro g7 c7 w7 hown7 hgr7 hat7 hlt7
         obtain ⟨hDd, t3, t4⟩ := hD2.push (q := (at_, D)) (v := .slice (some ⟨sg, 0, none⟩) 128 scap) hown7 hgr7 ⟨sg, scap, rfl, s1, s2, s3⟩ hat
         have hjq := (hB1H.out.new (hN2.alloc (.cells #[.int .i64 at_, .slice (some ⟨sg, 0, none⟩) 128 scap] 152)))
         have hj7 := hjq.jb.grown hgr7 (own_blk' (hwo2.alloc _) hjq.jb (by decide))
         have hr7 := hjq.rb.grown hgr7 (own_blk' (hwo2.alloc _) hjq.rb (by decide))
         have hS7 : w7.cell? ⟨w.heap.size, 1, none⟩ = some (.int .i64 at_) ∧ w7.cell? ⟨w.heap.size, 3, none⟩ = some (.slice (some ⟨jb, jo, none⟩) 128 c) := ⟨by simpa using hj7.cell 1, by simpa using hj7.cell 3⟩
         have hj8 := hj7.far (p := ⟨d, 1, none⟩) (fun e => by have e : w.heap.size = d := e; omega) (.slice (some ⟨g7, 0, none⟩) (s.ws.length + 1) c7)
         have hrb := hr7.far (p := ⟨d, 1, none⟩) (fun e => by have e : w.heap.size + 1 = d := e; omega) (.slice (some ⟨g7, 0, none⟩) (s.ws.length + 1) c7)
         have hS8 : (w7.setCell ⟨d, 1, none⟩ (.slice (some ⟨g7, 0, none⟩) (s.ws.length + 1) c7)).cell? ⟨w.heap.size, 1, none⟩ = some (.int .i64 at_) ∧ (w7.setCell ⟨d, 1, none⟩ (.slice (some ⟨g7, 0, none⟩) (s.ws.length + 1) c7)).cell? ⟨w.heap.size, 3, none⟩ = some (.slice (some ⟨jb, jo, none⟩) 128 c) := ⟨by simpa using hj8.cell 1, by simpa using hj8.cell 3⟩
         have hC2 : Chg (KW d g wv) w (w7.setCell ⟨d, 1, none⟩ (.slice (some ⟨g7, 0, none⟩) (s.ws.length + 1) c7)) := Chg.set (K := KW d g wv) ((Chg.of_new (K := KW d g wv) (hN1.out.next (hN2.alloc _))).grown hgr7 fun r e => .inl (.inr (.inr e))) (.inl (.inl rfl)) _
         have hDdH := Lib.hid hDd; have hrbH := Lib.hid hrb; have hC2H := Lib.hid hC2; clear hDd hrb hC2 hown7 hgr7 hat7 hj7 hr7 hj8 hjq))
  all_goals
    have hrb := hrbH.out
    have hDd := hDdH.out
    have hC2 := hC2H.out
    obtain ⟨p1, p2, p3, p4⟩ := reply_set 0 (.slice none 0 0) hrb (Nat.le_succ _) hC2
    have x0 := p2.cell 0
    have x1 := p2.cell 1
    simp at x0 x1
    have p1H := Lib.hid p1
    have p4H := Lib.hid (p4 hDd)
    have y0 := hrb.cell 0
    have y1 := hrb.cell 1
    have y2 := hrb.frozen 0
    have y3 := hrb.frozen 1
    simp at y0 y1
    clear p1 p2 p3 p4 hDd hrb hkeep
    go_wp2_with fail
    refine bodyPost_ret (v := .agg #[.int .i64 0, .slice none 0 0]) (by simp [results, Try.results43, go_sem, x0, x1]) rfl ?_
    rw [hse.out]
    exact ⟨_, g, _, _, _, rfl, rfl, p4H.out, p1H.out⟩
end Go.Proofs.Ythjjchlibbheaaa.drive
