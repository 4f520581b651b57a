/-
  A keeper in memory: what each write leaves; what a move answers.
-/
import Derived.Test.YtiffgeglbafenaaSnapMem
namespace Go.Proofs.Ytiffgeglbafenaa.snap
open Go.ChangeShapes Go.WideShapes Go.ChangeAt Go.RowKit Go.Proofs.Ytiffgeglbafenaa.kit Go.Deep
set_option linter.unusedVariables false
set_option maxRecDepth 100000
theorem infoBlk : (Try.prog.info? 69).map (fun i => (i.zero, i.size, i.bytes)) = some (some (.agg #[.int .i64 0, .bool false]), 2, 16) := by kernel_rfl
theorem infoShot : (Try.prog.info? 72).map (fun i => (i.zero, i.size, i.bytes)) = some (some (.agg #[.int .i64 0, .int .i64 0, .slice none 0 0]), 3, 40) := by kernel_rfl
theorem infoInt : (Try.prog.info? 3).map (fun i => (i.zero, i.size, i.bytes)) = some (some (.int .i64 0), 1, 8) := by kernel_rfl
theorem infoGone : (Try.prog.info? 35).map (fun i => (i.zero, i.size, i.bytes)) = some (some (.agg #[.int .i64 0, .slice none 0 0]), 2, 32) := by kernel_rfl
/-- own rows of two types are apart -/
theorem own_ne2 {w : World} {b1 b2 e1 e2 z1 z2 n1 n2 : Nat} {v1 v2 : Value} {x1 x2 : List Value} (h1 : w.ownsRow b1 e1 z1 v1 n1 x1) (h2 : w.ownsRow b2 e2 z2 v2 n2 x2) (hne : e1 ≠ e2) {g : Nat} (hg : v1.ownBlock = some g) : v2.ownBlock ≠ some g := by
  intro h
  rcases h1.2 with ⟨h0, _⟩ | ⟨g', cap, cur, h0, _, hg0, _⟩
  · rw [h0] at hg; cases hg
  · rw [h0] at hg
    have : g' = g := by simpa [Value.ownBlock] using hg
    subst this
    exact own_ne_blk h2 (t := e1) hg0 (Ne.symm hne) h
theorem own_keepG {w w' : World} {b e z n : Nat} {v : Value} {x : List Value} {row : Option Nat} (h : w.ownsRow b e z v n x) (hg : w.grownBy w' row) (hne : ∀ g, v.ownBlock = some g → row ≠ some g) : w'.ownsRow b e z v n x := by
  refine h.kept hg ?_
  cases hv : v.ownBlock with
  | none => exact .inl rfl
  | some g => exact .inr (Ne.symm (hne g hv))
theorem own_keepO {w w' : World} {b1 b2 e1 e2 z1 z2 n1 n2 : Nat} {v1 v2 : Value} {x1 x2 : List Value} (h : w.ownsRow b1 e1 z1 v1 n1 x1) (h2 : w.ownsRow b2 e2 z2 v2 n2 x2) (hne : e1 ≠ e2) (hg : w.grownBy w' v2.ownBlock) : w'.ownsRow b1 e1 z1 v1 n1 x1 :=
  own_keepG h hg fun g hv => own_ne2 h h2 hne hv
theorem own_keepS {w : World} {b e z n kb k : Nat} {t : TypeId} {v : Value} {x : List Value} {cs : Array Value} (h : w.ownsRow b e z v n x) (hk : Blk w kb t cs) (hne : e ≠ t) (u : Value) : (w.setCell ⟨kb, k, none⟩ u).ownsRow b e z v n x :=
  own_keepG h (grown_set w kb k u) fun g hv e' => own_ne_blk h hk hne (by rw [hv]; exact e'.symm)
theorem own_putS {w : World} {b e z n b2 e2 z2 n2 g c k : Nat} {v : Value} {x x2 : List Value} (h : w.ownsRow b e z v n x) (h2 : w.ownsRow b2 e2 z2 (.slice (some ⟨g, 0, none⟩) n2 c) n2 x2) (hne : e ≠ e2) (u : Value) : (w.setCell ⟨g, k, none⟩ u).ownsRow b e z v n x :=
  own_keepG h (grown_set w g k u) fun g' hv e' => by
    injection e' with e'
    subst e'
    exact own_ne2 h h2 hne hv rfl
theorem blk_putS {w : World} {b e z n g c k kb : Nat} {t : TypeId} {x : List Value} {cs : Array Value} (hk : Blk w kb t cs) (h : w.ownsRow b e z (.slice (some ⟨g, 0, none⟩) n c) n x) (hne : e ≠ t) (u : Value) : Blk (w.setCell ⟨g, k, none⟩ u) kb t cs :=
  hk.far (fun (e' : kb = g) => own_ne_blk h hk hne (by rw [e']; rfl)) u
section
variable {base kb : Nat} {s : KS} {bv sv : Value} {dv : Nat → Value} {w w1 w7 : World}
/-- a block more -/
theorem Km.pushB (h : Km base kb s bv sv dv w) (hn : New w w1) (hg : w1.grownBy w7 bv.ownBlock) {v7 : Value} {x : Nat}
    (ho : w7.ownsRow base 69 2 v7 (s.n + 1) (pairL (fun i => .int .i64 (s.born i : Nat)) (fun i => .bool (s.lives i)) s.n ++ [.int .i64 (x : Nat), .bool true])) :
    Km base kb { s with n := s.n + 1, born := upd s.born s.n x, lives := upd s.lives s.n true } v7 sv dv (w7.setCell ⟨kb, 1, none⟩ v7) := by
  have h1 := h.new hn
  have hk7 := h1.kbk.grown hg (own_ne_blk h1.bo h1.kbk (by decide))
  have so7 := own_keepO h1.so h1.bo (by decide) hg
  have e : pairL (fun i => .int .i64 (s.born i : Nat)) (fun i => .bool (s.lives i)) s.n ++ [.int .i64 (x : Nat), .bool true] = pairL (fun i => .int .i64 (upd s.born s.n x i : Nat)) (fun i => .bool (upd s.lives s.n true i)) (s.n + 1) := by
    rw [pairL_succ, upd_same, upd_same]
    congr 1
    exact pairL_congr fun i hi => by rw [upd_ne _ _ (by omega), upd_ne _ _ (by omega)]; exact ⟨rfl, rfl⟩
  rw [e] at ho
  have hkk := hk7.put 1 v7
  exact ⟨hkk, own_keepS ho hk7 (by decide) _, own_keepS so7 hk7 (by decide) _, ⟨fun i hi => own_keepS (own_keepO (h1.dd.own i hi) h1.bo (by decide) hg) hk7 (by decide) _, h1.dd.apart⟩, h.ge⟩
/-- a snapshot more -/
theorem Km.pushS (h : Km base kb s bv sv dv w) (hn : New w w1) (hg : w1.grownBy w7 sv.ownBlock) {v7 : Value} {x y : Nat} {l : List Nat}
    (ho : w7.ownsRow base 72 3 v7 (s.m + 1) (tripL (fun i => .int .i64 (s.num i : Nat)) (fun i => .int .i64 (s.made i : Nat)) dv s.m ++ [.int .i64 (x : Nat), .int .i64 (y : Nat), .slice none 0 0])) :
    Km base kb { s with m := s.m + 1, num := upd s.num s.m x, made := upd s.made s.m y, dead := upd s.dead s.m [], lst := upd s.lst s.m l } bv v7 (upd dv s.m (.slice none 0 0)) (w7.setCell ⟨kb, 2, none⟩ v7) := by
  have h1 := h.new hn
  have hk7 := h1.kbk.grown hg (own_ne_blk h1.so h1.kbk (by decide))
  have bo7 := own_keepO h1.bo h1.so (by decide) hg
  have e : tripL (fun i => .int .i64 (s.num i : Nat)) (fun i => .int .i64 (s.made i : Nat)) dv s.m ++ [.int .i64 (x : Nat), .int .i64 (y : Nat), .slice none 0 0] = tripL (fun i => .int .i64 (upd s.num s.m x i : Nat)) (fun i => .int .i64 (upd s.made s.m y i : Nat)) (upd dv s.m (.slice none 0 0)) (s.m + 1) := by
    rw [tripL_succ, upd_same, upd_same, upd_same]
    congr 1
    exact tripL_congr fun i hi => by rw [upd_ne _ _ (by omega), upd_ne _ _ (by omega), upd_ne _ _ (by omega)]; exact ⟨rfl, rfl, rfl⟩
  rw [e] at ho
  have hkk := hk7.put 2 v7
  refine ⟨hkk, own_keepS bo7 hk7 (by decide) _, own_keepS ho hk7 (by decide) _, ⟨fun i hi => ?_, fun i j g hi hj hi' hj' => ?_⟩, h.ge⟩
  · dsimp only at hi ⊢
    by_cases e : i = s.m
    · subst e
      rw [upd_same, upd_same]
      exact World.ownsRow_nil _ _ _ _
    · rw [upd_ne _ _ e, upd_ne _ _ e]
      exact own_keepS (own_keepO (h1.dd.own i (by omega)) h1.so (by decide) hg) hk7 (by decide) _
  · dsimp only at hi hj
    by_cases ei : i = s.m
    · subst ei
      rw [upd_same] at hi'
      cases hi'
    by_cases ej : j = s.m
    · subst ej
      rw [upd_same] at hj'
      cases hj'
    rw [upd_ne _ _ ei] at hi'
    rw [upd_ne _ _ ej] at hj'
    exact h1.dd.apart i j g (by omega) (by omega) hi' hj'
/-- a block dies -/
theorem Km.dieB {gb cb v : Nat} (h : Km base kb s (.slice (some ⟨gb, 0, none⟩) s.n cb) sv dv w) (hv : v < s.n) :
    Km base kb { s with lives := upd s.lives v false } (.slice (some ⟨gb, 0, none⟩) s.n cb) sv dv (w.setCell ⟨gb, v * 2 + 1, none⟩ (.bool false)) := by
  have e : pairL (fun i => .int .i64 (s.born i : Nat)) (upd (fun i => .bool (s.lives i)) v (.bool false)) s.n = pairL (fun i => .int .i64 (s.born i : Nat)) (fun i => .bool (upd s.lives v false i)) s.n :=
    pairL_congr fun i hi => by
      refine ⟨rfl, ?_⟩
      unfold upd
      split <;> rfl
  have ho := own_set h.bo (k := v * 2 + 1) (by rw [pairL_len]; omega) (.bool false)
  rw [pairL_set1 _ _ _ _ _ hv, e] at ho
  exact ⟨blk_putS h.kbk h.bo (by decide) _, ho, own_putS h.so h.bo (by decide) _, ⟨fun i hi => own_putS (h.dd.own i hi) h.bo (by decide) _, h.dd.apart⟩, h.ge⟩
/-- one more dead behind a snapshot -/
theorem Km.pushD {gs cs i b : Nat} {v7 : Value} (h : Km base kb s bv (.slice (some ⟨gs, 0, none⟩) s.m cs) dv w) (hi : i < s.m) (hn : New w w1) (hg : w1.grownBy w7 (dv i).ownBlock)
    (ho : w7.ownsRow base 3 1 v7 ((s.dead i).length + 1) (intL (s.dead i) ++ [.int .i64 (b : Nat)])) (hl : ∀ g, v7.ownBlock = some g → (dv i).ownBlock = some g ∨ w1.heap.size ≤ g) :
    Km base kb { s with dead := upd s.dead i (s.dead i ++ [b]) } bv (.slice (some ⟨gs, 0, none⟩) s.m cs) (upd dv i v7) (w7.setCell ⟨gs, i * 3 + 2, none⟩ v7) := by
  have h1 := h.new hn
  have so7 := own_keepO h1.so (h1.dd.own i hi) (by decide) hg
  have bo7 := own_keepO h1.bo (h1.dd.own i hi) (by decide) hg
  have hk7 := h1.kbk.grown hg (own_ne_blk (h1.dd.own i hi) h1.kbk (by decide))
  have hs := own_set so7 (k := i * 3 + 2) (by rw [tripL_len]; omega) v7
  rw [tripL_set2 _ _ _ _ _ _ hi] at hs
  refine ⟨blk_putS hk7 so7 (by decide) _, own_putS bo7 so7 (by decide) _, hs, ⟨fun j hj => ?_, fun j k g hj hk hj' hk' => ?_⟩, h.ge⟩
  · dsimp only at hj ⊢
    by_cases e : j = i
    · subst e
      rw [upd_same, upd_same]
      show World.ownsRow _ _ _ _ _ _ _
      rw [List.length_append, intL_more]
      exact own_putS ho so7 (by decide) _
    · rw [upd_ne _ _ e, upd_ne _ _ e]
      exact own_putS (own_keepG (h1.dd.own j hj) hg fun g hg' e' => e (h1.dd.apart j i g hj hi hg' e')) so7 (by decide) _
  · dsimp only at hj hk
    have key : ∀ k, k < s.m → k ≠ i → ∀ g, (dv k).ownBlock = some g → v7.ownBlock = some g → False := fun k hk hki g hg1 hg2 => by
      rcases hl g hg2 with h3 | h3
      · exact hki (h1.dd.apart k i g hk hi hg1 h3)
      · exact absurd ((h1.dd.own k hk).lt g hg1).2 (by omega)
    by_cases ej : j = i
    · by_cases ek : k = i
      · omega
      · rw [ej, upd_same] at hj'
        rw [upd_ne _ _ ek] at hk'
        exact (key k hk ek g hk' hj').elim
    · rw [upd_ne _ _ ej] at hj'
      by_cases ek : k = i
      · rw [ek, upd_same] at hk'
        exact (key j hj ej g hj' hk').elim
      · rw [upd_ne _ _ ek] at hk'
        exact h1.dd.apart j k g hj hk hj' hk'
end
/-- what a move answers -/
def MoveP (base kb : Nat) (s s' : KS) (cd : Int) (l : List Nat) (bv sv : Value) (dv : Nat → Value) (w : World) (e : Ending) (w' : World) : Prop :=
  ∃ bv' sv' dv' v, e = .returned (.agg #[.int .i64 cd, v]) ∧ Km base kb s' bv' sv' dv' w' ∧ Alt (KK kb s.m bv sv dv) w w' ∧ OwnI w' w.heap.size v l ∧ (∀ g, KK kb s'.m bv' sv' dv' g → (KK kb s.m bv sv dv g ∨ w.heap.size ≤ g) ∧ v.ownBlock ≠ some g)
theorem no_any (cd : Int) (w : World) : Calls Try.prog 17 #[.int .i64 cd] w fun e w' => e = .returned (.agg #[.int .i64 cd, .slice none 0 0]) ∧ New w w' := by
  obtain ⟨W1, hW1⟩ : ∃ W1, W1 = w.alloc (.cells #[.int .i64 0, .slice none 0 0] 35) := ⟨_, rfl⟩
  have hr : Blk W1 w.heap.size 35 #[.int .i64 0, .slice none 0 0] := by rw [hW1]; exact Blk.fresh w _ _
  have hn := Lib.hid (show New w W1 by rw [hW1]; exact (New.refl w).alloc _)
  go_enter Try.func17, Try.ntmps17
  go_upto_region 1 with fail
  rw [← hW1]
  clear hW1
  have r0 := hr.cell 0
  have r1 := hr.cell 1
  have z0 := hr.frozen 0
  have z1 := hr.frozen 1
  simp at r0 r1
  have hb := (hr.put 0 (.int .i64 cd)).put 1 (.slice none 0 0)
  have x0 := hb.cell 0
  have x1 := hb.cell 1
  simp at x0 x1
  have hx := Lib.hid (And.intro x0 x1)
  clear x0 x1 hb
  go_wp2
  exact bodyPost_ret (v := .agg #[.int .i64 cd, .slice none 0 0]) (by simp [results, Try.results17, go_sem, hx.out.1, hx.out.2]) rfl ⟨rfl, (hn.out.set (Nat.le_refl _) _).set (Nat.le_refl _) _⟩
end Go.Proofs.Ytiffgeglbafenaa.snap
