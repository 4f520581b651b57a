/-
  Contract of the reference's move: a snapshot; all moves.
-/
import Derived.Test.YtiffgeglbafenaaSnapRefMove2
namespace Go.Proofs.Ytiffgeglbafenaa.snap
open Go.ChangeShapes Go.WideShapes Go.ChangeAt Go.RowKit Go.Proofs.Ytiffgeglbafenaa.kit Go.Deep Go.Maps
set_option linter.unusedVariables false
set_option maxRecDepth 100000
theorem step_mapUpdate_run {P : Program} {ops : Array Oper} {o : Oper} {a : Act} {K : Act → World → Prop} {Q : Exit → Act → World → Prop} {E : Prop} {w w' : World} (hgd : o.guard = none) (m x v : Operand) (t : TypeId)
    (hop : o.op = Op.mapUpdate t m x v) (mv key val : Value) (hm : a.eval m = mv) (hx : a.eval x = key) (hv : a.eval v = val) (hrun : (Instr.mapUpdate t mv key val).run P w = .ok () w')
    (h : K (a.put o.dst undef) w') : if Region.wanted o (yielded ops a.tmps) = true then Oper.wp P o a w K Q else E := by
  have hw : Region.wanted o (yielded ops a.tmps) = true := by simp [Region.wanted, hgd]
  rw [if_pos hw]
  unfold Oper.wp
  simp [execOp, hop, hm, hx, hv, hrun, Result.andThen]
  exact h
theorem ref_keep_full (base nb mb c : Nat) (s : KS) (z : Int) (lv : Value) (mv : Nat → Value) (w : World) (h : Nd base nb mb c s lv mv w) (hm9 : s.m = 9) :
    Calls Try.prog 15 #[ptr nb, .agg #[.int .i64 3, .int .i64 z]] w (RmP base nb mb c (nextK s 3 z) (codeK s 3 z) lv w) := by
  have hc : codeK s 3 z = 8 := by simp [codeK, hm9]
  have e1 : nextK s 3 z = s.tick := by simp [nextK, hc]
  rw [hc, e1]
  clear hc e1
  obtain ⟨W1, hW1, hN1, hz, c0, c1⟩ := ref_mem (w := w) (k := 3) (z := z)
  have h1 := h.new hN1
  have k1 := h1.bk.cell 1
  simp at k1
  have hlen := fun ty => h1.mp.len ty
  have h9 : (s.m : Int) = 9 := by omega
  have hH := Lib.hid h
  have hNH := Lib.hid hN1
  clear h hN1 h1 hm9
  go_enter Try.func15, Try.ntmps15
  go_upto_region 1 with fail
  rw [← hW1]
  clear hW1
  go_wp2
  exact bodyPost_ret (v := .int .i64 8) (by simp [results, Try.results15, go_sem]) rfl (RmP.same hH.out hNH.out rfl)
theorem filter_more (p : Nat → Bool) (n : Nat) : (List.range (n + 1)).filter p = (List.range n).filter p ++ (if p n = true then [n] else []) := by
  rw [List.range_succ, List.filter_append]
  congr 1
  by_cases h : p n = true
  · simp [h]
  · simp [h]
set_option maxHeartbeats 1000000 in
theorem ref_keep (base nb mb c : Nat) (s : KS) (z : Int) (lv : Value) (mv : Nat → Value) (w : World) (hI : Inv s) (h : Nd base nb mb c s lv mv w) (hm9 : s.m < 9) (hkp : s.kept ≤ 300) (hc3 : c ≤ 1000) (hbase : base ≤ w.heap.size) :
    Calls Try.prog 15 #[ptr nb, .agg #[.int .i64 3, .int .i64 z]] w (RmP base nb mb c (nextK s 3 z) (codeK s 3 z) lv w) := by
  have hc : codeK s 3 z = 0 := by simp [codeK]; omega
  obtain ⟨s', hs'⟩ : ∃ s', Hid (s' = nextK s 3 z) := ⟨_, rfl⟩
  rw [hc, ← hs'.out]
  have e1 : Hid (∃ dd md, s' = { s with now := s.now + 1, m := s.m + 1, kept := s.kept + 1, num := upd s.num s.m s.kept, made := md, dead := dd, lst := upd s.lst s.m ((List.range s.n).filter fun b => s.lives b) }) := by
    rw [hs'.out]
    unfold nextK
    rw [hc, if_neg (by simp), if_neg (by decide), if_neg (by decide), if_pos rfl]
    exact ⟨_, _, rfl⟩
  clear hc
  obtain ⟨i0, hi0, hz0, hz1', hz2'⟩ := info_parts infoInt
  obtain ⟨W1, hW1, hN1, hz, c0, c1⟩ := ref_mem (w := w) (k := 3) (z := z)
  have h1 := h.new hN1
  have k0 := h1.bk.cell 0
  have k1 := h1.bk.cell 1
  simp at k0 k1
  have hlen := fun ty => h1.mp.len ty
  have h9 : ¬ (9 : Int) ≤ (s.m : Int) := by omega
  obtain ⟨A, cc, rfl, _, _, hA, hcell⟩ := own_open h1.lo
  have hn200 := hI.n200
  have hn2 : (s.n : Int) ≤ 200 := by omega
  have hH := Lib.hid h1
  have hNH := Lib.hid hN1
  have hIH := Lib.hid hI
  have hlive : Hid (∀ g, A = some ⟨g, 0, none⟩ → ∀ i, i < s.n → W1.cell? ⟨g, i, none⟩ = some (.bool (s.lives i))) := fun g hg i hi => hcell g hg i _ (boolL_at s.lives hi)
  have hnw : Hid (∀ j, j < s.m → s.num j < s.kept) := fun j hj => hI.nu j hj
  have hb1 : base ≤ W1.heap.size := by have := hN1.size; omega
  have hb2 : w.heap.size ≤ W1.heap.size := hN1.size
  clear h hN1 h1 hI hcell
  go_enter Try.func15, Try.ntmps15
  go_upto_region 1 with fail
  rw [← hW1]
  clear hW1
  go_wp2_with fail
  go_loopw [75, 5] (fun x v wr => ∃ i, x = .int .i64 (i : Nat) ∧ i ≤ s.n ∧ Hid (OwnI wr W1.heap.size v ((List.range i).filter fun b => s.lives b)) ∧ Hid (New W1 wr)) (fun x _ _ => s.n - (intOf x).toNat)
  case atStart => exact ⟨0, rfl, Nat.zero_le _, World.ownsRow_nil _ _ _ _, Lib.hid (New.refl _)⟩
  case round =>
    obtain ⟨i, rfl, hi, hO, hN⟩ := hrel
    by_cases hlt : i < s.n
    · have hil : (i : Int) < (s.n : Int) := by omega
      obtain ⟨g, rfl, _, hg⟩ := hA (by omega)
      have e0 := hlive.out g rfl i hlt
      replace e0 := (hN.out.cell (lt_of_cell e0)).trans e0
      have hmo := Lib.hid (filter_more (fun b => s.lives b) i)
      have hzr := hN.out.size
      have hll : ((List.range i).filter fun b => s.lives b).length ≤ i := by
        have := List.length_filter_le (fun b => s.lives b) (List.range i)
        rwa [List.length_range] at this
      by_cases hl : s.lives i = true
      · rw [hl] at e0
        simp only [hl, if_true] at hmo
        obtain ⟨L, hL⟩ : ∃ L, Hid (L = (List.range i).filter fun b => s.lives b) := ⟨_, rfl⟩
        rw [← hL.out] at hO hll hmo
        have hown := hO.out
        clear hl
        go_wp2_with
          (at_builtin; refine wpList_append_lies _ rfl _ _ 33 rfl W1.heap.size 3 i0 _ 1 8 Try.underlying33 hi0 hz0 hz1' hz2' rfl (by decide) u5 L.length (intL L) rfl (hown.alloc _) ⟨wr.heap.size, 0, none⟩ 1 1 [.int .i64 (i : Nat)] rfl rfl (World.news_of_block (cs := #[.int .i64 _]) (t := 3) (fr := (0, 0)) (heap_alloc_new wr _)) (by simp [Value.oneCell']) (by omega) (by unfold maxLen; omega) (by omega) (by simp; omega) _ rfl ?_; intro g7 c7 w7 hown7 hgr7 hat7 hlt7
           have hgr := Lib.hid hgr7
           have hownH := Lib.hid hown7
           clear hgr7 hown7)
        go_roundw
        case rel =>
          refine ⟨i + 1, by go_num, by omega, ?_, ?_⟩
          · show World.ownsRow _ _ _ _ _ _ _
            rw [hmo.out, intL_more, List.length_append]
            exact hownH.out
          · exact (hN.out.alloc _).grown hgr.out fun r e => (hown.lt r e).1
        case measure => simp [intOf]; omega
      · have hlf : s.lives i = false := by simpa using hl
        rw [hlf] at e0
        simp only [hlf, Bool.false_eq_true, if_false, List.append_nil] at hmo
        clear hl hlf
        go_wp2
        go_roundw
        case rel => exact ⟨i + 1, by go_num, by omega, by show World.ownsRow _ _ _ _ _ _ _; rw [hmo.out]; exact hO.out, hN⟩
        case measure => simp [intOf]; omega
    · have him : s.n = i := by omega
      have h3 := hH.out.new hN.out
      have k1 := h3.bk.cell 1
      have k2 := h3.bk.cell 2
      simp at k1 k2
      rw [← him] at hO
      have hO3 := own_mono hO.out hb1
      obtain ⟨w7, hup, hm7, hg7⟩ := (h3.new (New.refl _).drew).mp.put (by unfold maxLen; omega) (x := s.kept) (by unfold I64; omega) hnw.out u5
      have h7 := (h3.new (New.refl _).drew).keep hg7 (own_new hO3 (New.refl _).drew) hm7 (t := s.now + 1) (md := s.made) (dd := s.dead)
      have k7 := h7.bk.cell 2
      have f7 := h7.bk.frozen 2
      simp at k7
      have hfin : Hid (RmP base nb mb c s' 0 (.slice A s.n cc) w (.returned (.int .i64 0)) (w7.setCell ⟨nb, 2, none⟩ (.int .i64 ((s.kept : Int) + 1)))) := by
        obtain ⟨dd, md, e⟩ := e1.out
        rw [e]
        refine ⟨.slice A s.n cc, upd mv s.m u5, rfl, ?_, ((((Alt.of_new hNH.out).next hN.out).drew).grown hg7 fun r e => by cases e; exact .inl (.inr (.inl rfl))).set (.inl (.inl rfl)) _⟩
        have h8 := h7.putKept (s.kept + 1)
        exact ⟨by simpa using h8.bk, by simpa using h8.lo, by simpa using h8.mp, fun i hi => by simpa using h8.ll i hi, h8.ge⟩
      have hkp' : (s.kept : Int) ≤ 300 := by omega
      clear h3 h7 hm7 hg7 hO hO3 e1 hs'
      have hil : ¬ (i : Int) < (s.n : Int) := by omega
      clear him
      go_upto_region 21 with fail
      go_region_law (refine step_mapUpdate_run (by rfl) _ _ _ 57 (by rfl) _ _ _ (by rfl) (by rfl) (by rfl) hup ?_)
      all_goals
        go_wp2
        exact bodyPost_ret (v := .int .i64 0) (by simp [results, Try.results15, go_sem]) rfl hfin.out
theorem RefMove_any (base nb mb c : Nat) (s : KS) (k z : Int) (lv : Value) (mv : Nat → Value) (w : World) (hI : Inv s) (h : Nd base nb mb c s lv mv w) (hkp : s.kept ≤ 300) (hc3 : c ≤ 1000) (hz6 : I64 z) (hbase : base ≤ w.heap.size) :
    Calls Try.prog 15 #[ptr nb, .agg #[.int .i64 k, .int .i64 z]] w (RmP base nb mb c (nextK s k z) (codeK s k z) lv w) := by
  by_cases h1 : k = 1
  · subst h1
    by_cases hn : s.n = 200
    · exact ref_born_full base nb mb c s z lv mv w h hn
    · have := hI.n200
      exact ref_born base nb mb c s z lv mv w h (by omega) hbase
  by_cases h2 : k = 2
  · subst h2
    by_cases hl : 0 ≤ z ∧ z < s.n ∧ s.lives z.toNat = true
    · obtain ⟨v, rfl⟩ : ∃ v : Nat, z = v := ⟨z.toNat, by omega⟩
      simp only [Int.toNat_natCast] at hl
      exact ref_kill base nb mb c v s lv mv w h hI.n200 (by omega) hl.2.2
    · exact ref_kill_no base nb mb c s z lv mv w h hI.n200 hl
  by_cases h3 : k = 3
  · subst h3
    by_cases hm : s.m = 9
    · exact ref_keep_full base nb mb c s z lv mv w h hm
    · have := hI.m9
      exact ref_keep base nb mb c s z lv mv w hI h (by omega) hkp hc3 hbase
  by_cases h4 : k = 4
  · subst h4
    cases hf : find s.num z s.m with
    | none => exact ref_drop_no base nb mb c s z lv mv w h hz6 hf
    | some i => exact ref_drop base nb mb c i s z lv mv w hI h hz6 hf
  exact ref_other base nb mb c s k z lv mv w h h1 h2 h3 h4
end Go.Proofs.Ytiffgeglbafenaa.snap
