/-
  Contract of snap.Play.
-/
import Derived.Test.YtiffgeglbafenaaSnapKept
namespace Go.Proofs.Ytiffgeglbafenaa.snap
open Go.ChangeShapes Go.WideShapes Go.ChangeAt Go.RowKit Go.Proofs.Ytiffgeglbafenaa.kit Go.Deep
set_option linter.unusedVariables false
set_option maxRecDepth 100000
/-- the states of a play, the codes, what goes -/
def runK (K V : Nat → Int) : Nat → KS
  | 0 => KS.start
  | i + 1 => nextK (runK K V i) (K i) (V i)
def codesK (K V : Nat → Int) (i : Nat) : Int := codeK (runK K V i) (K i) (V i)
def goneK (K V : Nat → Int) (i : Nat) : List Nat := goneP (runK K V i) (K i) (V i)
theorem nextK_now (s : KS) (k w : Int) : (nextK s k w).now = s.now + 1 ∧ (nextK s k w).kept ≤ s.kept + 1 := by
  unfold nextK
  split
  · exact ⟨rfl, Nat.le_succ _⟩
  split
  · exact ⟨rfl, Nat.le_succ _⟩
  split
  · split
    · exact ⟨rfl, Nat.le_succ _⟩
    · exact ⟨rfl, Nat.le_succ _⟩
  split
  · exact ⟨rfl, Nat.le_refl _⟩
  split
  · exact ⟨rfl, Nat.le_succ _⟩
  · exact ⟨rfl, Nat.le_succ _⟩
theorem run_inv (K V : Nat → Int) : ∀ i, Inv (runK K V i) ∧ (runK K V i).now = i ∧ (runK K V i).kept ≤ i
  | 0 => ⟨Inv.start, rfl, Nat.le_refl _⟩
  | i + 1 => by
    obtain ⟨h1, h2, h3⟩ := run_inv K V i
    obtain ⟨h4, h5⟩ := nextK_now (runK K V i) (K i) (V i)
    refine ⟨(step_law h1 _ _).1, ?_, ?_⟩
    · show (nextK _ _ _).now = _
      omega
    · show (nextK _ _ _).kept ≤ _
      omega
/-- moves, read in memory -/
def RdV (w : World) (A : Option Addr) (m : Nat) (K V : Nat → Int) : Prop :=
  m ≤ maxLen ∧ (0 < m → ∃ b off, A = some ⟨b, off, none⟩ ∧ b < w.heap.size ∧ ∀ i, i < m → w.cell? ⟨b, off + i * 2, none⟩ = some (.int .i64 (K i)) ∧ w.cell? ⟨b, off + i * 2 + 1, none⟩ = some (.int .i64 (V i)))
theorem RdV.new {w w' : World} {A : Option Addr} {m : Nat} {K V : Nat → Int} (h : RdV w A m K V) (hn : New w w') : RdV w' A m K V :=
  ⟨h.1, fun h0 => by
    obtain ⟨b, off, hA, hb, hc⟩ := h.2 h0
    exact ⟨b, off, hA, Nat.lt_of_lt_of_le hb hn.size, fun i hi => ⟨(hn.cell hb).trans (hc i hi).1, (hn.cell hb).trans (hc i hi).2⟩⟩⟩
/-- answers, as cells -/
abbrev gnL (C : Nat → Int) (dv : Nat → Value) (m : Nat) : List Value := pairL (fun i => .int .i64 (C i)) dv m
theorem gnL_more (C : Nat → Int) (dv : Nat → Value) (m : Nat) (v : Value) : gnL C (upd dv m v) (m + 1) = gnL C dv m ++ [.int .i64 (C m), v] := by
  unfold gnL
  rw [pairL_succ, upd_same]
  congr 1
  exact pairL_congr fun i hi => by rw [upd_ne _ _ (by omega)]; exact ⟨rfl, rfl⟩
/-- what a play answers -/
def PlG (C : Nat → Int) (G : Nat → List Nat) (m : Nat) (cd : Int) (w : World) (e : Ending) (w' : World) : Prop :=
  (∃ v dv, e = .returned (.tuple #[v, .int .i64 cd]) ∧ w'.ownsRow w.heap.size 35 2 v m (gnL C dv m) ∧ ∀ j, j < m → OwnI w' w.heap.size (dv j) (G j)) ∧ New w w'
theorem PlG.no {C : Nat → Int} {G : Nat → List Nat} {cd : Int} {w w' : World} {e : Ending} (he : e = .returned (.tuple #[.slice none 0 0, .int .i64 cd])) (hn : New w w') : PlG C G 0 cd w e w' :=
  ⟨⟨_, fun _ => .slice none 0 0, he, World.ownsRow_nil _ _ _ _, fun j hj => absurd hj (Nat.not_lt_zero j)⟩, hn⟩
theorem Km.apart {base kb : Nat} {s : KS} {bv sv : Value} {dv : Nat → Value} {w : World} (h : Km base kb s bv sv dv w) {b2 e2 z2 n2 : Nat} {v : Value} {x : List Value} (ho : w.ownsRow b2 e2 z2 v n2 x) (h1 : e2 ≠ 52) (h2 : e2 ≠ 69) (h3 : e2 ≠ 72) (h4 : e2 ≠ 3) {g : Nat} (hg : KK kb s.m bv sv dv g) : v.ownBlock ≠ some g := by
  rcases hg with rfl | hg | hg | ⟨i, hi, hg⟩
  · exact own_ne_blk ho h.kbk h1
  · exact fun e => own_ne2 ho h.bo h2 e hg
  · exact fun e => own_ne2 ho h.so h3 e hg
  · exact fun e => own_ne2 ho (h.dd.own i hi) h4 e hg
theorem Play_long (A : Option Addr) (m c : Nat) (C : Nat → Int) (G : Nat → List Nat) (w : World) (hm : 300 < m) (hmx : m ≤ maxLen) : Calls Try.prog 8 #[.slice A m c] w (PlG C G 0 1 w) := by
  unfold maxLen at hmx
  have hm3 : (300 : Int) < (m : Int) := by omega
  go_enter Try.func8, Try.ntmps8
  go_wp2
  exact bodyPost_ret (v := .tuple #[.slice none 0 0, .int .i64 1]) (by simp [results, Try.results8, go_sem]) rfl (PlG.no rfl (New.refl _))
set_option maxHeartbeats 2000000 in
theorem Play_ok (m c : Nat) (A : Option Addr) (K V : Nat → Int) (w : World) (hm : m ≤ 300) (hJ : RdV w A m K V) :
    Calls Try.prog 8 #[.slice A m c] w (PlG (codesK K V) (goneK K V) m 0 w) := by
  obtain ⟨i0, hi0, hz0, hz1, hz2⟩ := info_parts infoGone
  have hJH := Lib.hid hJ
  have g3 : ¬ (300 : Int) < (m : Int) := by omega
  obtain ⟨S, hS⟩ : ∃ S, Hid (S = runK K V) := ⟨_, rfl⟩
  obtain ⟨C, hC⟩ : ∃ C, Hid (C = codesK K V) := ⟨_, rfl⟩
  obtain ⟨G, hG⟩ : ∃ G, Hid (G = goneK K V) := ⟨_, rfl⟩
  rw [← hC.out, ← hG.out]
  have hin : Hid (∀ i, Inv (S i) ∧ (S i).now = i ∧ (S i).kept ≤ i) := fun i => by rw [hS.out]; exact run_inv K V i
  have hst : Hid (∀ i, nextK (S i) (K i) (V i) = S (i + 1) ∧ codeK (S i) (K i) (V i) = C i ∧ goneP (S i) (K i) (V i) = G i) := fun i => by rw [hS.out, hC.out, hG.out]; exact ⟨rfl, rfl, rfl⟩
  obtain ⟨W1, hW1⟩ : ∃ W1, W1 = w.alloc (.cells #[.int .i64 0, .slice none 0 0, .slice none 0 0, .int .i64 0] 52) := ⟨_, rfl⟩
  have hN1 : Hid (New w W1) := by show New w W1; rw [hW1]; exact (New.refl w).alloc _
  have hK0 : Hid (Km w.heap.size w.heap.size (S 0) (.slice none 0 0) (.slice none 0 0) (fun _ => .slice none 0 0) W1) := by
    show Km _ _ _ _ _ _ _
    rw [hS.out, hW1]
    exact ⟨Blk.fresh w _ _, World.ownsRow_nil _ _ _ _, World.ownsRow_nil _ _ _ _, ⟨fun i hi => absurd hi (Nat.not_lt_zero i), fun i j g hi => absurd hi (Nat.not_lt_zero i)⟩, Nat.le_refl _⟩
  clear hJ
  go_enter Try.func8, Try.ntmps8
  go_upto_region 4 with fail
  rw [← hW1]
  clear hW1
  go_wp2_with fail
  go_loopw [15, 5] (fun x ov wr => ∃ (i : Nat) (bv sv : Value) (kv dv : Nat → Value), x = .int .i64 i ∧ i ≤ m ∧ Hid (Km w.heap.size w.heap.size (S i) bv sv kv wr) ∧ Hid (wr.ownsRow w.heap.size 35 2 ov i (gnL C dv i)) ∧ Hid (∀ j, j < i → OwnI wr w.heap.size (dv j) (G j) ∧ ∀ g, KK w.heap.size (S i).m bv sv kv g → (dv j).ownBlock ≠ some g) ∧ Hid (New w wr)) (fun x _ _ => m - (intOf x).toNat)
  case atStart => exact ⟨0, _, _, _, fun _ => .slice none 0 0, rfl, by omega, hK0, World.ownsRow_nil _ _ _ _, fun j hj => absurd hj (Nat.not_lt_zero j), hN1⟩
  case round =>
    obtain ⟨i, bv, sv, kv, dv, rfl, hi, hK, hO, hR, hN⟩ := hrel
    by_cases hlt : i < m
    · obtain ⟨b, off, rfl, hb, hc⟩ := hJH.out.2 (by omega)
      obtain ⟨e0, e1⟩ := hc i hlt
      replace e0 := (hN.out.cell hb).trans e0
      replace e1 := (hN.out.cell hb).trans e1
      have hil : (i : Int) < (m : Int) := by omega
      have hnz := hN.out.size
      have hnow := (hin.out i).2.1
      have hkp := (hin.out i).2.2
      have hnx : Hid (∀ wx, Km w.heap.size w.heap.size (S i) bv sv kv wx → Km w.heap.size w.heap.size (S i).tick bv sv kv (wx.setCell ⟨w.heap.size, 0, none⟩ (.int .i64 ((i : Int) + 1)))) := fun wx hk => by
        have := hk.putNow ((S i).now + 1)
        rw [hnow] at this
        have e : (S i).tick = { S i with now := i + 1 } := by simp [KS.tick, hnow]
        rw [e]
        simpa using this
      have hdo := Lib.hid (fun (w' : World) (hk : Km w.heap.size w.heap.size (S i).tick bv sv kv w') (hb : w.heap.size ≤ w'.heap.size) => Move_any w.heap.size w.heap.size (S i) (K i) (V i) bv sv kv w' (hin.out i).1 (by omega) hk hb)
      rw [(hst.out i).1, (hst.out i).2.1, (hst.out i).2.2] at hdo
      obtain ⟨k, hk⟩ : ∃ k, Hid (k = K i) := ⟨_, rfl⟩
      obtain ⟨v, hv⟩ : ∃ v, Hid (v = V i) := ⟨_, rfl⟩
      rw [← hk.out, ← hv.out] at hdo
      rw [← hk.out] at e0
      rw [← hv.out] at e1
      have k0 := hK.out.kbk.cell 0
      have f0 := hK.out.kbk.frozen 0
      simp [hnow] at k0
      have hi3 : (i : Int) ≤ 300 := by omega
      obtain ⟨W2, hW2⟩ : ∃ W2, W2 = wr.alloc (.cells #[.int .i64 k, .int .i64 v] 54) := ⟨_, rfl⟩
      have hn2 : New wr W2 := by rw [hW2]; exact (New.refl wr).alloc _
      have hm2 : Hid (Blk W2 wr.heap.size 54 #[.int .i64 k, .int .i64 v]) := by show Blk _ _ _ _; rw [hW2]; exact Blk.fresh _ _ _
      have hK2 := hK.out.new hn2
      have k2 := hK2.kbk.cell 0
      have f2 := hK2.kbk.frozen 0
      simp [hnow] at k2
      clear hnow hkp hc k0 f0
      obtain ⟨W3, hW3⟩ : ∃ W3, W3 = W2.setCell ⟨w.heap.size, 0, none⟩ (.int .i64 ((i : Int) + 1)) := ⟨_, rfl⟩
      have hK3 : Hid (Km w.heap.size w.heap.size (S i).tick bv sv kv W3) := by show Km _ _ _ _ _ _ _; rw [hW3]; exact hnx.out _ hK2
      have hg3 : Hid (W2.grownBy W3 (some w.heap.size)) := by show World.grownBy _ _ _; rw [hW3]; exact grown_set _ _ _ _
      have hO3 : Hid (W3.ownsRow w.heap.size 35 2 u5 i (gnL C dv i)) := own_keepG (own_new hO.out hn2) hg3.out fun g hg e => (hK2.apart (own_new hO.out hn2) (by decide) (by decide) (by decide) (by decide) (.inl rfl)) (by rw [hg, e])
      have hR3 : Hid (∀ j, j < i → OwnI W3 w.heap.size (dv j) (G j)) := fun j hj => own_keepG (own_new (hR.out j hj).1 hn2) hg3.out fun g hg e => (hR.out j hj).2 w.heap.size (.inl rfl) (by rw [hg, e])
      have hN3 : Hid (New w W3) := by show New w W3; rw [hW3]; exact (hN.out.next hn2).set (Nat.le_refl _) _
      have hz3 : wr.heap.size ≤ W3.heap.size := by rw [hW3]; simpa using hn2.size
      have hm3 : Blk W3 wr.heap.size 54 #[.int .i64 k, .int .i64 v] := by
        rw [hW3]
        exact hm2.out.far (fun e => by have := (hK.out.lt (.inl rfl)).2; dsimp only at e; omega) _
      have q0 := hm3.cell 0
      have q1 := hm3.cell 1
      simp at q0 q1
      go_upto_region 8 with fail
      rw [← hW2]
      clear hW2
      go_upto_region 9 with fail
      rw [← hW3]
      clear hW3 hK2 k2 f2 hn2 hm3
      go_wp2_with fail
      refine (hdo.out W3 hK3.out (by omega)).mono ?_
      rintro e w4 ⟨bv', sv', kv', v4, rfl, hK4, hA4, hO4, hKK4⟩
      obtain ⟨X, xn, xc, rfl⟩ : ∃ X n c, v4 = .slice X n c := by
        obtain ⟨A5, c5, h5, _⟩ := own_open hO4
        exact ⟨_, _, _, h5⟩
      have hKK : ∀ g, KK w.heap.size (S i).m bv sv kv g → ∀ j, j < i → (dv j).ownBlock ≠ some g := fun g hg j hj => (hR.out j hj).2 g hg
      have hO5 : w4.ownsRow w.heap.size 35 2 u5 i (gnL C dv i) := hA4.own hO3.out fun g hg hk => (hK3.out.apart hO3.out (by decide) (by decide) (by decide) (by decide) hk) hg
      have hR5 : Hid (∀ j, j < i + 1 → OwnI w4 w.heap.size (upd dv i (.slice X xn xc) j) (G j) ∧ ∀ g, KK w.heap.size (S (i + 1)).m bv' sv' kv' g → (upd dv i (.slice X xn xc) j).ownBlock ≠ some g) := fun j hj => by
        by_cases e : j = i
        · subst e
          rw [upd_same]
          exact ⟨own_mono hO4 (by omega), fun g hg => (hKK4 g hg).2⟩
        · rw [upd_ne _ _ e]
          refine ⟨hA4.own (hR3.out j (by omega)) fun g hg hk => hKK g hk j (by omega) hg, fun g hg hh => ?_⟩
          rcases (hKK4 g hg).1 with h1 | h1
          · exact hKK g h1 j (by omega) hh
          · have := ((hR3.out j (by omega)).lt g hh).2
            omega
      have hN4 : Hid (New w w4) := hN3.out.trans (hA4.below (by omega) fun g hg => (hK3.out.lt hg).1)
      have hz4 := hN4.out.size
      have hK5 : Hid (Km w.heap.size w.heap.size (S (i + 1)) bv' sv' kv' w4) := hK4
      clear hK4 hA4 hO4 hKK4 hKK
      show _
      dsimp only
      go_wp2_with (at_builtin; refine wpList_append_own _ rfl _ _ 30 rfl w.heap.size 35 i0 _ 2 32 Try.underlying30 hi0 hz0 hz1 hz2 rfl (by decide) u5 i (gnL C dv i) rfl (hO5.alloc _) ⟨w4.heap.size, 0, none⟩ 1 1 [.int .i64 (C i), .slice X xn xc] rfl rfl (World.news_of_block (cs := #[.int .i64 _, .slice _ _ _]) (t := 35) (fr := (0, 0)) (heap_alloc_new w4 _)) (by simp [Value.oneCell']) (by unfold maxLen; omega) (by omega) (by simp; omega) ?_; intro v6 w6 hown6 hgr6 hnil6)
      have hfin : Hid (Km w.heap.size w.heap.size (S (i + 1)) bv' sv' kv' w6 ∧ w6.ownsRow w.heap.size 35 2 v6 (i + 1) (gnL C (upd dv i (.slice X xn xc)) (i + 1)) ∧ (∀ j, j < i + 1 → OwnI w6 w.heap.size (upd dv i (.slice X xn xc) j) (G j) ∧ ∀ g, KK w.heap.size (S (i + 1)).m bv' sv' kv' g → (upd dv i (.slice X xn xc) j).ownBlock ≠ some g) ∧ New w w6) := by
        have ha : New w4 (w4.alloc (.cells #[.int .i64 (C i), .slice X xn xc] 35)) := (New.refl w4).alloc _
        refine ⟨(hK5.out.new ha).alt (K := fun g => u5.ownBlock = some g) (Alt.grown (Alt.refl _) hgr6 fun r e => .inl e) fun g hg e => (hK5.out.new ha).apart (hO5.alloc _) (by decide) (by decide) (by decide) (by decide) hg e, by rw [gnL_more]; exact hown6, fun j hj => ⟨own_keepG (own_new (hR5.out j hj).1 ha) hgr6 fun g hg e => own_ne2 (own_new (hR5.out j hj).1 ha) (hO5.alloc _) (by decide) hg e, (hR5.out j hj).2⟩, (hN4.out.next ha).grown hgr6 fun r e => (hO5.lt r e).1⟩
      clear hown6 hgr6 hnil6 hO5
      go_wp2
      go_roundw
      case rel => exact ⟨i + 1, bv', sv', kv', _, by go_num, by omega, hfin.out.1, hfin.out.2.1, hfin.out.2.2.1, hfin.out.2.2.2⟩
      case measure => simp [intOf]; omega
    · have him : m = i := by omega
      subst him
      have hf := Lib.hid (And.intro hO.out (And.intro (fun j hj => (hR.out j hj).1) hN.out))
      clear hO hR hN
      go_wp2
      exact bodyPost_ret (v := .tuple #[u5, .int .i64 0]) (by simp [results, Try.results8, go_sem]) rfl ⟨⟨u5, dv, rfl, hf.out.1, hf.out.2.1⟩, hf.out.2.2⟩
end Go.Proofs.Ytiffgeglbafenaa.snap
