/-
  Contract of the reference's move.
-/
import Derived.Test.YtiffgeglbafenaaSnapNeed
namespace Go.Proofs.Ytiffgeglbafenaa.snap
open Go.ChangeShapes Go.WideShapes Go.ChangeAt Go.RowKit Go.Proofs.Ytiffgeglbafenaa.kit Go.Deep Go.Maps
set_option linter.unusedVariables false
set_option maxRecDepth 100000
theorem SM.mono {w : World} {b c c' m : Nat} {num : Nat → Nat} {mv : Nat → Value} (h : SM w b c m num mv) (hc : c ≤ c') : SM w b c' m num mv := by
  obtain ⟨D, h1, h2⟩ := h
  exact ⟨D, h1.mono hc, h2⟩
section
variable {base nb mb c : Nat} {s : KS} {lv : Value} {mv : Nat → Value} {w w' w1 w7 : World}
theorem Nd.mono (h : Nd base nb mb c s lv mv w) {c' : Nat} (hc : c ≤ c') : Nd base nb mb c' s lv mv w := ⟨h.bk, h.lo, h.mp.mono hc, h.ll, h.ge⟩
/-- other moments change nothing -/
theorem Nd.tick (h : Nd base nb mb c s lv mv w) : Nd base nb mb c s.tick lv mv w := ⟨h.bk, h.lo, h.mp, h.ll, h.ge⟩
theorem sm_ne_blk {b a m : Nat} {num : Nat → Nat} {t : TypeId} {cs : Array Value} (h : SM w b c m num mv) (h' : Blk w a t cs) : b ≠ a := fun e => by
  subst e
  obtain ⟨es, k, h1⟩ := h.obj
  unfold Blk at h'
  rw [h'] at h1
  cases h1
theorem sm_ne_own {b m B e z n : Nat} {num : Nat → Nat} {v : Value} {xs : List Value} (h : SM w b c m num mv) (ho : w.ownsRow B e z v n xs) : v.ownBlock ≠ some b := fun he => by
  obtain ⟨es, k, hm⟩ := h.obj
  rcases ho.2 with ⟨h0, _⟩ | ⟨g', cap, cur, h0, _, hg0, _⟩
  · rw [h0] at he; cases he
  · rw [h0] at he
    have : g' = b := by simpa [Value.ownBlock] using he
    subst this
    rw [hm] at hg0
    cases hg0
/-- a block is born -/
theorem Nd.born (h : Nd base nb mb c s lv mv w) (hn : New w w1) (hg : w1.grownBy w7 lv.ownBlock) {v7 : Value} {t : Nat} {bn : Nat → Nat}
    (ho : w7.ownsRow base 4 1 v7 (s.n + 1) (boolL s.lives s.n ++ [.bool true])) :
    Nd base nb mb c { s with now := t, n := s.n + 1, born := bn, lives := upd s.lives s.n true } v7 mv (w7.setCell ⟨nb, 0, none⟩ v7) := by
  have h1 := h.new hn
  have hk7 := h1.bk.grown hg (own_ne_blk h1.lo h1.bk (by decide))
  have hm7 := h1.mp.grown hg fun e => sm_ne_own h1.mp h1.lo e.symm
  rw [← boolL_more] at ho
  exact ⟨hk7.put 0 v7, own_keepS ho hk7 (by decide) _, hm7.grown (grown_set _ _ _ _) fun e => sm_ne_blk hm7 hk7 (Option.some.inj e), fun i hi => own_keepS (own_keepO (h1.ll i hi) h1.lo (by decide) hg) hk7 (by decide) _, h.ge⟩
/-- a block dies -/
theorem Nd.dies {g cc v : Nat} (h : Nd base nb mb c s (.slice (some ⟨g, 0, none⟩) s.n cc) mv w) (hv : v < s.n) {t : Nat} {dd : Nat → List Nat} :
    Nd base nb mb c { s with now := t, lives := upd s.lives v false, dead := dd } (.slice (some ⟨g, 0, none⟩) s.n cc) mv (w.setCell ⟨g, v, none⟩ (.bool false)) := by
  have ho := own_set h.lo (k := v) (by rw [boolL_len]; omega) (.bool false)
  rw [boolL_set _ _ _ _ hv] at ho
  exact ⟨blk_putS h.bk h.lo (by decide) _, ho, h.mp.grown (grown_set _ _ _ _) fun e => sm_ne_own h.mp h.lo (by rw [Option.some.inj e]; rfl), fun i hi => own_putS (h.ll i hi) h.lo (by decide) _, h.ge⟩
/-- a snapshot is taken -/
theorem Nd.keep (h : Nd base nb mb c s lv mv w) (hg : w.grownBy w' (some mb)) {v : Value} {l : List Nat} (hv : OwnI w base v l) {t x : Nat} {md : Nat → Nat} {dd : Nat → List Nat}
    (hm : SM w' mb (c + 1) (s.m + 1) (upd s.num s.m x) (upd mv s.m v)) :
    Nd base nb mb (c + 1) { s with now := t, m := s.m + 1, num := upd s.num s.m x, made := md, dead := dd, lst := upd s.lst s.m l } lv (upd mv s.m v) w' := by
  have hk : Blk w' nb 60 #[lv, .map (some mb), .int .i64 (s.kept : Nat)] := h.bk.grown hg fun e => sm_ne_blk h.mp h.bk (Option.some.inj e)
  have keep : ∀ {b e z n : Nat} {v : Value} {x : List Value}, w.ownsRow b e z v n x → w'.ownsRow b e z v n x := fun ho => own_keepG ho hg fun g hg' e => sm_ne_own h.mp ho (by rw [hg', e])
  refine ⟨hk, keep h.lo, hm, fun i hi => ?_, h.ge⟩
  dsimp only at hi ⊢
  by_cases e : i = s.m
  · subst e
    rw [upd_same, upd_same]
    exact keep hv
  · rw [upd_ne _ _ e, upd_ne _ _ e]
    exact keep (h.ll i (by omega))
theorem Nd.putKept (h : Nd base nb mb c s lv mv w) (x : Nat) : Nd base nb mb c { s with kept := x } lv mv (w.setCell ⟨nb, 2, none⟩ (.int .i64 (x : Nat))) := by
  have hg := grown_set w nb 2 (.int .i64 (x : Nat))
  exact ⟨h.bk.put 2 _, own_keepS h.lo h.bk (by decide) _, h.mp.grown hg fun e => sm_ne_blk h.mp h.bk (Option.some.inj e), fun i hi => own_keepS (h.ll i hi) h.bk (by decide) _, h.ge⟩
/-- a snapshot is dropped -/
theorem Nd.drop (h : Nd base nb mb c s lv mv w) (hg : w.grownBy w' (some mb)) {i : Nat} {t : Nat} {md : Nat → Nat} {dd : Nat → List Nat}
    (hi : i < s.m) (hm : SM w' mb c (s.m - 1) (cutAt s.num i) (cutAt mv i)) :
    Nd base nb mb c { s with now := t, m := s.m - 1, num := cutAt s.num i, made := md, dead := dd, lst := cutAt s.lst i } lv (cutAt mv i) w' := by
  have hk : Blk w' nb 60 #[lv, .map (some mb), .int .i64 (s.kept : Nat)] := h.bk.grown hg fun e => sm_ne_blk h.mp h.bk (Option.some.inj e)
  have keep : ∀ {b e z n : Nat} {v : Value} {x : List Value}, w.ownsRow b e z v n x → w'.ownsRow b e z v n x := fun ho => own_keepG ho hg fun g hg' e => sm_ne_own h.mp ho (by rw [hg', e])
  refine ⟨hk, keep h.lo, hm, fun j hj => ?_, h.ge⟩
  dsimp only at hj ⊢
  unfold cutAt
  split
  · exact keep (h.ll j (by omega))
  · exact keep (h.ll (j + 1) (by omega))
end
/-- what the reference's move answers -/
def RmP (base nb mb c : Nat) (s' : KS) (cd : Int) (lv : Value) (w : World) (e : Ending) (w' : World) : Prop :=
  ∃ lv' mv', e = .returned (.int .i64 cd) ∧ Nd base nb mb (c + 1) s' lv' mv' w' ∧ Alt (NK nb mb lv) w w'
theorem RmP.same {base nb mb c : Nat} {s : KS} {cd : Int} {lv : Value} {mv : Nat → Value} {w w' : World} {e : Ending} (h : Nd base nb mb c s lv mv w) (hn : New w w') (he : e = .returned (.int .i64 cd)) : RmP base nb mb c s.tick cd lv w e w' :=
  ⟨lv, mv, he, ((h.new hn).mono (Nat.le_succ _)).tick, Alt.of_new hn⟩
theorem ref_mem {w : World} {k z : Int} : ∃ W1, W1 = w.alloc (.cells #[.int .i64 k, .int .i64 z] 54) ∧ New w W1 ∧ W1.heap.size = w.heap.size + 1 ∧ W1.cell? ⟨w.heap.size, 0, none⟩ = some (.int .i64 k) ∧ W1.cell? ⟨w.heap.size, 1, none⟩ = some (.int .i64 z) := by
  have hb := Blk.fresh w 54 #[.int .i64 k, .int .i64 z]
  exact ⟨_, rfl, (New.refl w).alloc _, by simp, by rw [hb.cell 0]; rfl, by rw [hb.cell 1]; rfl⟩
theorem ref_other (base nb mb c : Nat) (s : KS) (k z : Int) (lv : Value) (mv : Nat → Value) (w : World) (h : Nd base nb mb c s lv mv w) (h1 : k ≠ 1) (h2 : k ≠ 2) (h3 : k ≠ 3) (h4 : k ≠ 4) :
    Calls Try.prog 15 #[ptr nb, .agg #[.int .i64 k, .int .i64 z]] w (RmP base nb mb c (nextK s k z) (codeK s k z) lv w) := by
  have hc : codeK s k z = 3 := by simp [codeK, h1, h2, h3, h4]
  have e1 : nextK s k z = s.tick := by simp [nextK, hc]
  rw [hc, e1]
  clear hc e1
  obtain ⟨W1, hW1, hN1, hz, c0, c1⟩ := ref_mem (w := w) (k := k) (z := z)
  have hH := Lib.hid h
  have hNH := Lib.hid hN1
  clear h hN1
  go_enter Try.func15, Try.ntmps15
  go_upto_region 1 with fail
  rw [← hW1]
  clear hW1
  go_wp2
  exact bodyPost_ret (v := .int .i64 3) (by simp [results, Try.results15, go_sem]) rfl (RmP.same hH.out hNH.out rfl)
theorem ref_born_full (base nb mb c : Nat) (s : KS) (z : Int) (lv : Value) (mv : Nat → Value) (w : World) (h : Nd base nb mb c s lv mv w) (hn : s.n = 200) :
    Calls Try.prog 15 #[ptr nb, .agg #[.int .i64 1, .int .i64 z]] w (RmP base nb mb c (nextK s 1 z) (codeK s 1 z) lv w) := by
  have hc : codeK s 1 z = 8 := by simp [codeK, hn]
  have e1 : nextK s 1 z = s.tick := by simp [nextK, hc]
  rw [hc, e1]
  clear hc e1
  obtain ⟨W1, hW1, hN1, hz, c0, c1⟩ := ref_mem (w := w) (k := 1) (z := z)
  have k0 := (h.new hN1).bk.cell 0
  simp at k0
  obtain ⟨A, cc, rfl, _⟩ := own_open h.lo
  have hn' : (s.n : Int) = 200 := by omega
  have hH := Lib.hid h
  have hNH := Lib.hid hN1
  clear h hN1 hn
  go_enter Try.func15, Try.ntmps15
  go_upto_region 1 with fail
  rw [← hW1]
  clear hW1
  go_wp2
  exact bodyPost_ret (v := .int .i64 8) (by simp [results, Try.results15, go_sem]) rfl (RmP.same hH.out hNH.out rfl)
theorem ref_born (base nb mb c : Nat) (s : KS) (z : Int) (lv : Value) (mv : Nat → Value) (w : World) (h : Nd base nb mb c s lv mv w) (hn : s.n < 200) (hbase : base ≤ w.heap.size) :
    Calls Try.prog 15 #[ptr nb, .agg #[.int .i64 1, .int .i64 z]] w (RmP base nb mb c (nextK s 1 z) (codeK s 1 z) lv w) := by
  have hc : codeK s 1 z = 0 := by simp [codeK]; omega
  have e1 : nextK s 1 z = { s with now := s.now + 1, n := s.n + 1, born := upd s.born s.n (s.now + 1), lives := upd s.lives s.n true } := by simp [nextK, hc]
  rw [hc, e1]
  clear hc e1
  obtain ⟨i0, hi0, hz0, hz1', hz2'⟩ := info_parts infoBool
  obtain ⟨W1, hW1, hN1, hz, c0, c1⟩ := ref_mem (w := w) (k := 1) (z := z)
  have h1 := h.new hN1
  have k0 := h1.bk.cell 0
  have hka := h1.bk.alloc (.cells #[.bool true] 4)
  have k0a := hka.cell 0
  simp at k0 k0a
  obtain ⟨A, cc, rfl, _⟩ := own_open h.lo
  have hn' : ¬ (200 : Int) ≤ (s.n : Int) := by omega
  have hlo := h1.lo
  have hkeep : Hid (∀ w7, (W1.alloc (.cells #[.bool true] 4)).grownBy w7 (Value.ownBlock (.slice A s.n cc)) → w7.cell? ⟨nb, 0, none⟩ = some (.slice A s.n cc) ∧ w7.frozen? ⟨nb, 0, none⟩ = false) := fun w7 hg => by
    have hb7 := hka.grown hg (own_ne_blk (hlo.alloc _) hka (by decide))
    exact ⟨by rw [hb7.cell 0]; rfl, hb7.frozen 0⟩
  have hH := Lib.hid h1
  have hNH := Lib.hid hN1
  have hzH := Lib.hid hz
  have hb1 : base ≤ W1.heap.size + 1 := by omega
  clear h hN1 h1 hka hz
  go_enter Try.func15, Try.ntmps15
  go_upto_region 1 with fail
  rw [← hW1]
  clear hW1
  go_wp2_with
    (at_builtin; refine wpList_append_lies _ rfl _ _ 58 rfl base 4 i0 _ 1 1 Try.underlying58 hi0 hz0 hz1' hz2' rfl (by decide) (.slice A s.n cc) _ _ rfl (hlo.alloc _) ⟨W1.heap.size, 0, none⟩ 1 1 [.bool true] rfl rfl (World.news_of_block (cs := #[.bool _]) (t := 4) (fr := (0, 0)) (heap_alloc_new W1 _)) (by simp [Value.oneCell']) (by omega) (by unfold maxLen; omega) (by omega) (by simp; omega) _ rfl ?_; intro g7 c7 w7 hown7 hgr7 hat7 hlt7
     obtain ⟨f7, f8⟩ := hkeep.out w7 hgr7
     have hgr := Lib.hid hgr7
     have hown := Lib.hid hown7
     clear hgr7 hown7)
  refine bodyPost_ret (v := .int .i64 0) (by simp [results, Try.results15, go_sem]) rfl ⟨_, mv, rfl, (hH.out.born ((New.refl W1).alloc _) hgr.out hown.out).mono (Nat.le_succ _), ?_⟩
  exact (Alt.grown ((Alt.of_new hNH.out).alloc _) hgr.out fun r e => .inl (.inr (.inr e))).set (.inl (.inl rfl)) _
end Go.Proofs.Ytiffgeglbafenaa.snap
