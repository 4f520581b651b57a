/-
  Contract of the reference's move: kill, drop.
-/
import Derived.Test.YtiffgeglbafenaaSnapRefMove
namespace Go.Proofs.Ytiffgeglbafenaa.snap
open Go.ChangeShapes Go.WideShapes Go.ChangeAt Go.RowKit Go.Proofs.Ytiffgeglbafenaa.kit Go.Deep Go.Maps
set_option linter.unusedVariables false
set_option maxRecDepth 100000
theorem ref_kill_no (base nb mb c : Nat) (s : KS) (z : Int) (lv : Value) (mv : Nat → Value) (w : World) (h : Nd base nb mb c s lv mv w) (hz200 : s.n ≤ 200) (hno : ¬ (0 ≤ z ∧ z < s.n ∧ s.lives z.toNat = true)) :
    Calls Try.prog 15 #[ptr nb, .agg #[.int .i64 2, .int .i64 z]] w (RmP base nb mb c (nextK s 2 z) (codeK s 2 z) lv w) := by
  have hc : codeK s 2 z = 6 := by simp [codeK, hno]
  have e1 : nextK s 2 z = s.tick := by simp [nextK, hc]
  rw [hc, e1]
  clear hc e1
  obtain ⟨W1, hW1, hN1, hz, c0, c1⟩ := ref_mem (w := w) (k := 2) (z := z)
  have h1 := h.new hN1
  have k0 := h1.bk.cell 0
  simp at k0
  obtain ⟨A, cc, rfl, _, _, hA, hcell⟩ := own_open h1.lo
  have hH := Lib.hid h
  have hNH := Lib.hid hN1
  have hnn : (s.n : Int) ≤ 200 := by omega
  clear h hN1 h1
  go_enter Try.func15, Try.ntmps15
  go_upto_region 1 with fail
  rw [← hW1]
  clear hW1
  by_cases h0 : z < 0
  · skip
    go_upto_region 8 with fail
    go_region
    go_wp2
    exact bodyPost_ret (v := .int .i64 6) (by simp [results, Try.results15, go_sem]) rfl (RmP.same hH.out hNH.out.drew rfl)
  obtain ⟨v, rfl⟩ : ∃ v : Nat, z = v := ⟨z.toNat, by omega⟩
  by_cases h1 : (s.n : Int) ≤ (v : Int)
  · have h1' : s.n ≤ v := by omega
    go_upto_region 8 with fail
    go_region
    go_wp2
    exact bodyPost_ret (v := .int .i64 6) (by simp [results, Try.results15, go_sem]) rfl (RmP.same hH.out hNH.out.drew rfl)
  · have h1' : ¬ s.n ≤ v := by omega
    have h2' : (v : Int) < (s.n : Int) := by omega
    have hl : s.lives v = false := by
      have : ¬ (s.lives v = true) := fun hl => hno ⟨by omega, by omega, by simpa using hl⟩
      simpa using this
    obtain ⟨g, rfl, _, hg⟩ := hA (by omega)
    have c1' := hcell g rfl v _ (boolL_at s.lives (by omega))
    rw [hl] at c1'
    clear hcell
    go_upto_region 8 with fail
    go_region
    go_wp2
    exact bodyPost_ret (v := .int .i64 6) (by simp [results, Try.results15, go_sem]) rfl (RmP.same hH.out hNH.out.drew rfl)
theorem nextK_kill {s : KS} {z : Int} {v : Nat} (hz : z = v) (hv : v < s.n) (hl : s.lives v = true) : codeK s 2 z = 0 ∧ ∃ dd, nextK s 2 z = { s with now := s.now + 1, lives := upd s.lives v false, dead := dd } := by
  subst hz
  have hc : codeK s 2 (v : Int) = 0 := by simp [codeK, hl]; omega
  refine ⟨hc, ?_⟩
  by_cases h : loose s v = true
  · exact ⟨s.dead, by simp [nextK, hc, h]⟩
  · have hlf : loose s v = false := by simpa using h
    exact ⟨upd s.dead (s.m - 1) (s.dead (s.m - 1) ++ [v]), by simp [nextK, hc, hlf]⟩
theorem ref_kill (base nb mb c v : Nat) (s : KS) (lv : Value) (mv : Nat → Value) (w : World) (h : Nd base nb mb c s lv mv w) (hz200 : s.n ≤ 200) (hv : v < s.n) (hl : s.lives v = true) :
    Calls Try.prog 15 #[ptr nb, .agg #[.int .i64 2, .int .i64 (v : Nat)]] w (RmP base nb mb c (nextK s 2 (v : Nat)) (codeK s 2 (v : Nat)) lv w) := by
  obtain ⟨hc, dd, e1⟩ := nextK_kill (z := v) rfl hv hl
  obtain ⟨s', hs'⟩ : ∃ s', Hid (s' = nextK s 2 (v : Nat)) := ⟨_, rfl⟩
  rw [hc, ← hs'.out]
  have e1H := Lib.hid e1
  clear hc e1
  obtain ⟨W1, hW1, hN1, hz, c0, c1⟩ := ref_mem (w := w) (k := 2) (z := v)
  have h1 := h.new hN1
  have k0 := h1.bk.cell 0
  simp at k0
  obtain ⟨A, cc, rfl, _, _, hA, hcell⟩ := own_open h1.lo
  obtain ⟨g, rfl, _, hg⟩ := hA (by omega)
  have c1' := hcell g rfl v _ (boolL_at s.lives (by omega))
  rw [hl] at c1'
  have z1 := own_frozen h1.lo v
  have hnn : (s.n : Int) ≤ 200 := by omega
  have h1' : ¬ s.n ≤ v := by omega
  have h1'' : ¬ (s.n : Int) ≤ (v : Int) := by omega
  have h2' : (v : Int) < (s.n : Int) := by omega
  have hNH := Lib.hid hN1
  have hH := Lib.hid h1
  have hvH := Lib.hid hv
  clear hcell h1 hN1 h hA hl hv
  go_enter Try.func15, Try.ntmps15
  go_upto_region 1 with fail
  rw [← hW1]
  clear hW1
  have hd0 : decide ((v : Int) < 0) = false := by simp
  have hd1 : decide ((s.n : Int) ≤ (v : Int)) = false := by simp; omega
  go_upto_region 8 with fail
  go_quiet (fail)
  have hn3 : New W1 (W1.drewN nq) := New.of_drewN _ _
  obtain ⟨W3, hW3⟩ : ∃ W3, W3 = W1.drewN nq := ⟨_, rfl⟩
  rw [← hW3] at hn3 ⊢
  clear hW3
  have h3 := hH.out.new hn3
  have k0 := h3.bk.cell 0
  simp at k0
  have z1 := own_frozen h3.lo v
  have c1 := (hn3.cell (lt_of_cell c1)).trans c1
  have c2' : W3.cell? ⟨g, v, none⟩ = some (.bool true) := (hn3.cell (lt_of_cell c1')).trans c1'
  have hNH3 := Lib.hid (hNH.out.next hn3)
  have hH3 := Lib.hid h3
  clear hn3 h3 hd0 hd1
  go_upto_region 10 with fail
  go_region
  go_wp2
  exact bodyPost_ret (v := .int .i64 0) (by simp [results, Try.results15, go_sem]) rfl ⟨_, mv, rfl, by rw [hs'.out, e1H.out]; exact ((hH3.out.dies hvH.out).new (New.refl _).drew).mono (Nat.le_succ _), ((Alt.of_new hNH3.out).set (.inl (.inr (.inr rfl))) _).drew⟩
theorem ref_drop_no (base nb mb c : Nat) (s : KS) (z : Int) (lv : Value) (mv : Nat → Value) (w : World) (h : Nd base nb mb c s lv mv w) (hz6 : I64 z) (hf : find s.num z s.m = none) :
    Calls Try.prog 15 #[ptr nb, .agg #[.int .i64 4, .int .i64 z]] w (RmP base nb mb c (nextK s 4 z) (codeK s 4 z) lv w) := by
  have hc : codeK s 4 z = 6 := by simp [codeK, hf]
  have e1 : nextK s 4 z = s.tick := by simp [nextK, hc]
  rw [hc, e1]
  clear hc e1
  obtain ⟨W1, hW1, hN1, hz, c0, c1⟩ := ref_mem (w := w) (k := 4) (z := z)
  have h1 := h.new hN1
  have k1 := h1.bk.cell 1
  simp at k1
  obtain ⟨x, hlk⟩ := (h1.new (New.refl _).drew).mp.look hz6
  rw [hf, show (none : Option Nat).isSome = false from rfl] at hlk
  have hH := Lib.hid h
  have hNH := Lib.hid hN1
  clear h hN1 h1
  go_enter Try.func15, Try.ntmps15
  go_upto_region 1 with fail
  rw [← hW1]
  clear hW1
  go_upto_region 24 with fail
  go_region
  go_wp2
  exact bodyPost_ret (v := .int .i64 6) (by simp [results, Try.results15, go_sem]) rfl (RmP.same hH.out hNH.out.drew rfl)
theorem step_delete_run {P : Program} {ops : Array Oper} {o : Oper} {a : Act} {K : Act → World → Prop} {Q : Exit → Act → World → Prop} {E : Prop} {w w' : World} (hgd : o.guard = none) (m x : Operand) (t k : TypeId)
    (ho : o.op = .call { callee := .builtin .delete, args := #[m, x], argTypes := #[t, k] }) (mv xv : Value) (hm : a.eval m = mv) (hx : a.eval x = xv) (hr : (Builtin.delete_ #[t, k] o.type #[mv, xv]).run P w = .ok (.tuple #[]) w')
    (h : K (a.put o.dst (.tuple #[])) w') : if Region.wanted o (yielded ops a.tmps) = true then Oper.wp P o a w K Q else E := by
  have hw : Region.wanted o (yielded ops a.tmps) = true := by simp [Region.wanted, hgd]
  rw [if_pos hw]
  unfold Oper.wp execOp
  simp only [ho, resolve, invoke, builtin, Sem.run_bind, Sem.run_pure, Result.andThen_ok, List.map_toArray, List.map_cons, List.map_nil, hm, hx, hr]
  exact h
theorem ref_drop (base nb mb c i : Nat) (s : KS) (z : Int) (lv : Value) (mv : Nat → Value) (w : World) (hI : Inv s) (h : Nd base nb mb c s lv mv w) (hz6 : I64 z) (hf : find s.num z s.m = some i) :
    Calls Try.prog 15 #[ptr nb, .agg #[.int .i64 4, .int .i64 z]] w (RmP base nb mb c (nextK s 4 z) (codeK s 4 z) lv w) := by
  have hc : codeK s 4 z = 0 := by simp [codeK, hf]
  obtain ⟨him, hiz, _⟩ := find_some hf
  obtain ⟨s', hs'⟩ : ∃ s', Hid (s' = nextK s 4 z) := ⟨_, rfl⟩
  rw [hc, ← hs'.out]
  have e1 : Hid (∃ dd, s' = { s with now := s.now + 1, m := s.m - 1, num := cutAt s.num i, made := cutAt s.made i, lst := cutAt s.lst i, dead := dd }) := by
    rw [hs'.out]
    unfold nextK
    rw [hc, if_neg (by simp), if_neg (by decide), if_neg (by decide), if_neg (by decide), hf]
    exact ⟨_, rfl⟩
  clear hc
  obtain ⟨W1, hW1, hN1, hz, c0, c1⟩ := ref_mem (w := w) (k := 4) (z := z)
  have h1 := (h.new hN1).new (New.refl _).drew
  have k1 := (h.new hN1).bk.cell 1
  simp at k1
  obtain ⟨x, hlk⟩ := h1.mp.look hz6
  rw [hf, show (some i : Option Nat).isSome = true from rfl] at hlk
  obtain ⟨w7, hdl, hm7, hg7⟩ := (h1.new (New.refl _).drew).mp.drop him (by rw [hiz]; exact hz6) hI.nd 0
  rw [hiz] at hdl
  have hNH := Lib.hid hN1
  have hfin : Hid (RmP base nb mb c s' 0 lv w (.returned (.int .i64 0)) w7) := by
    obtain ⟨dd, e⟩ := e1.out
    rw [e]
    exact ⟨lv, _, rfl, ((h1.new (New.refl _).drew).drop hg7 him hm7).mono (Nat.le_succ _), ((Alt.of_new hN1).drew).drew.grown hg7 fun r e => by cases e; exact .inl (.inr (.inl rfl))⟩
  clear hm7 hg7 h1 h hN1 hI him hf hs' e1
  go_enter Try.func15, Try.ntmps15
  go_upto_region 1 with fail
  rw [← hW1]
  clear hW1
  go_upto_region 24 with fail
  go_region
  go_upto_region 27 with fail
  go_region_law (refine step_delete_run (by rfl) _ _ 57 3 (by rfl) _ _ (by rfl) (by rfl) hdl ?_)
  all_goals
    go_wp2
    exact bodyPost_ret (v := .int .i64 0) (by simp [results, Try.results15, go_sem]) rfl hfin.out
end Go.Proofs.Ytiffgeglbafenaa.snap
