/-
  Contract of tree.Play.
-/
import Derived.Test.YtiffgeglbafenaaTreeStep
namespace Go.Proofs.Ytiffgeglbafenaa.tree
open Go.ChangeShapes Go.WideShapes Go.ChangeAt Go.RowKit Go.Proofs.Ytiffgeglbafenaa.kit Go.Deep
set_option linter.unusedVariables false
set_option maxRecDepth 100000
/-- steps, read in memory -/
def RdS (w : World) (A : Option Addr) (m : Nat) (K V O C : Nat → Int) (R : Nat → Option Addr) (L X : Nat → Nat) (D : Nat → Nat → Nat) : Prop :=
  m ≤ maxLen ∧ (0 < m → ∃ b off, A = some ⟨b, off, none⟩ ∧ b < w.heap.size ∧ ∀ i, i < m → w.cell? ⟨b, off + i * 5, none⟩ = some (.int .i64 (K i)) ∧ w.cell? ⟨b, off + i * 5 + 1, none⟩ = some (.int .i64 (V i)) ∧ w.cell? ⟨b, off + i * 5 + 2, none⟩ = some (.int .i64 (O i)) ∧ w.cell? ⟨b, off + i * 5 + 3, none⟩ = some (.int .i64 (C i)) ∧ w.cell? ⟨b, off + i * 5 + 4, none⟩ = some (.slice (R i) (L i) (X i))) ∧
  ∀ i, i < m → RdI .u8 w (R i) (L i) (fun k => (D i k : Nat)) ∧ L i ≤ X i ∧ X i ≤ maxLen
theorem RdS.new {w w' : World} {A : Option Addr} {m : Nat} {K V O C : Nat → Int} {R : Nat → Option Addr} {L X : Nat → Nat} {D : Nat → Nat → Nat} (h : RdS w A m K V O C R L X D) (hn : New w w') : RdS w' A m K V O C R L X D :=
  ⟨h.1, fun h0 => by
    obtain ⟨b, off, hA, hb, hc⟩ := h.2.1 h0
    exact ⟨b, off, hA, Nat.lt_of_lt_of_le hb hn.size, fun i hi => ⟨(hn.cell hb).trans (hc i hi).1, (hn.cell hb).trans (hc i hi).2.1, (hn.cell hb).trans (hc i hi).2.2.1, (hn.cell hb).trans (hc i hi).2.2.2.1, (hn.cell hb).trans (hc i hi).2.2.2.2⟩⟩, fun i hi => ⟨(h.2.2 i hi).1.new hn, (h.2.2 i hi).2⟩⟩
/-- answers, as cells -/
def shoL (Q : Nat → Sho) (dv : Nat → Value) (m : Nat) : List Value := (List.range m).flatMap fun i => [.int .i64 (Q i).code, .int .i64 ((Q i).ver : Nat), .int .i64 ((Q i).size : Nat), dv i]
theorem shoL_len (Q : Nat → Sho) (dv : Nat → Value) : ∀ m, (shoL Q dv m).length = m * 4
  | 0 => rfl
  | m + 1 => by
    have := shoL_len Q dv m
    unfold shoL at this ⊢
    rw [List.range_succ, List.flatMap_append, List.length_append, this]
    simp
    omega
theorem shoL_more (Q : Nat → Sho) (dv : Nat → Value) (m : Nat) (v : Value) : shoL Q (fun i => if i = m then v else dv i) (m + 1) = shoL Q dv m ++ [.int .i64 (Q m).code, .int .i64 ((Q m).ver : Nat), .int .i64 ((Q m).size : Nat), v] := by
  unfold shoL
  rw [List.range_succ, List.flatMap_append]
  congr 1
  · rw [List.flatMap_def, List.flatMap_def]
    congr 1
    apply List.map_congr_left
    intro i hi
    have hi := List.mem_range.1 hi
    simp [show i ≠ m by omega]
  · simp
theorem shoL_at (Q : Nat → Sho) (dv : Nat → Value) : ∀ m i, i < m → (shoL Q dv m)[i * 4]? = some (.int .i64 (Q i).code) ∧ (shoL Q dv m)[i * 4 + 1]? = some (.int .i64 ((Q i).ver : Nat)) ∧ (shoL Q dv m)[i * 4 + 2]? = some (.int .i64 ((Q i).size : Nat)) ∧ (shoL Q dv m)[i * 4 + 3]? = some (dv i)
  | 0, i, h => absurd h (Nat.not_lt_zero i)
  | m + 1, i, h => by
    have hl := shoL_len Q dv m
    have hr := shoL_at Q dv m i
    unfold shoL at hl hr ⊢
    rw [List.range_succ, List.flatMap_append]
    by_cases e : i < m
    · rw [List.getElem?_append_left (by omega), List.getElem?_append_left (by omega), List.getElem?_append_left (by omega), List.getElem?_append_left (by omega)]
      exact hr e
    · have : i = m := by omega
      subst this
      rw [List.getElem?_append_right (by omega), List.getElem?_append_right (by omega), List.getElem?_append_right (by omega), List.getElem?_append_right (by omega), hl]
      simp
/-- what a play answers -/
def PlT (Q : Nat → Sho) (m : Nat) (cd : Int) (w : World) (e : Ending) (w' : World) : Prop :=
  (∃ v dv, e = .returned (.tuple #[v, .int .i64 cd]) ∧ w'.ownsRow w.heap.size 46 4 v m (shoL Q dv m) ∧ ∀ j, j < m → DatT w' (dv j) (Q j).len (Q j).d) ∧ New w w'
theorem PlT.no {Q : Nat → Sho} {cd : Int} {w w' : World} {e : Ending} (he : e = .returned (.tuple #[.slice none 0 0, .int .i64 cd])) (hn : New w w') : PlT Q 0 cd w e w' :=
  ⟨⟨_, fun _ => .slice none 0 0, he, World.ownsRow_nil _ _ _ _, fun j hj => absurd hj (Nat.not_lt_zero j)⟩, hn⟩
/-- .. of the inner play: the forest beside it -/
def PlT3 (Q : Nat → Sho) (m : Nat) (cd : Int) (w : World) (e : Ending) (w' : World) : Prop :=
  (∃ v p dv, e = .returned (.tuple #[v, p, .int .i64 cd]) ∧ w'.ownsRow w.heap.size 46 4 v m (shoL Q dv m) ∧ ∀ j, j < m → DatT w' (dv j) (Q j).len (Q j).d) ∧ New w w'
theorem play_long (A : Option Addr) (m c : Nat) (Q : Nat → Sho) (w : World) (hm : 300 < m) (hmx : m ≤ maxLen) : Calls Try.prog 11 #[.slice A m c] w (PlT3 Q 0 1 w) := by
  unfold maxLen at hmx
  have hm3 : (300 : Int) < (m : Int) := by omega
  go_enter Try.func11, Try.ntmps11
  go_wp2
  exact bodyPost_ret (v := .tuple #[.slice none 0 0, .pointer none, .int .i64 1]) (by simp [results, Try.results11, go_sem]) rfl ⟨⟨_, _, fun _ => .slice none 0 0, rfl, World.ownsRow_nil _ _ _ _, fun j hj => absurd hj (Nat.not_lt_zero j)⟩, New.refl _⟩
theorem make_ver (w : World) : (Instr.makeSlice 63 (.int .i64 1) (.int .i64 1)).run Try.prog w = .ok (.slice (some ⟨w.heap.size, 0, none⟩) 1 1) (w.alloc (.cells #[.pointer none, .int .i64 0] 78)) := by
  obtain ⟨i0, hi0, hz0, hz1, hz2⟩ := info_parts infoVer
  have h := run_makeSlice (P := Try.prog) (w := w) 63 78 i0 _ Try.underlying63 hi0 hz0 .i64 .i64 1 1 (by omega) (Int.le_refl _) (by rw [hz1]; decide) (by rw [hz2]; decide) (by decide)
  rw [hz1] at h
  rw [show madeCells (Value.agg #[.pointer none, .int .i64 0]).cells (Int.toNat 1 * 2) = #[.pointer none, .int .i64 0] from by kernel_rfl] at h
  exact h
set_option maxHeartbeats 2000000 in
theorem play_ok (m c : Nat) (A : Option Addr) (K V O C : Nat → Int) (R : Nat → Option Addr) (L X : Nat → Nat) (D : Nat → Nat → Nat) (w : World) (hm : m ≤ 300) (hJ : RdS w A m K V O C R L X D) :
    Calls Try.prog 11 #[.slice A m c] w (PlT3 (shoT K V O C L D) m 0 w) := by
  obtain ⟨i0, hi0, hz0, hz1, hz2⟩ := info_parts infoSho
  have hJH := Lib.hid hJ
  have g3 : ¬ (300 : Int) < (m : Int) := by omega
  obtain ⟨S, hS⟩ : ∃ S, Hid (S = runT K V O C L D) := ⟨_, rfl⟩
  obtain ⟨Q, hQ⟩ : ∃ Q, Hid (Q = shoT K V O C L D) := ⟨_, rfl⟩
  rw [← hQ.out]
  have hin : Hid (∀ i, InT i (S i)) := fun i => by rw [hS.out]; exact run_inT K V O C L D i
  have hst : Hid (∀ i, stepT (S i) (K i) (V i) (O i) (C i) (L i) (D i) = (S (i + 1), Q i)) := fun i => by rw [hS.out, hQ.out]; rfl
  have hS0 : S 0 = [Ver.none] := by rw [hS.out]; rfl
  have hmk := make_ver w
  obtain ⟨W1, hW1⟩ : ∃ W1, W1 = (w.alloc (.cells #[.pointer none, .int .i64 0] 78)).alloc (.cells #[.slice (some ⟨w.heap.size, 0, none⟩) 1 1, .int .i64 0] 65) := ⟨_, rfl⟩
  have hN1 : Hid (New w W1) := by show New w W1; rw [hW1]; exact ((New.refl w).alloc _).alloc _
  have hFo : Hid (Fo w.heap.size (w.heap.size + 1) (S 0) (some ⟨w.heap.size, 0, none⟩) 1 (fun _ => .pointer none) W1) := by
    show Fo _ _ _ _ _ _ _
    rw [hS0, hW1]
    refine ⟨⟨0, ?_⟩, ⟨rfl, .inr ⟨w.heap.size, 1, #[.pointer none, .int .i64 0], rfl, Nat.le_refl _, ?_, Nat.le_refl _, by unfold maxLen; omega, rfl, rfl⟩⟩, fun i hi => ?_, Nat.le_succ _⟩
    · have := Blk.fresh (w.alloc (.cells #[.pointer none, .int .i64 0] 78)) 65 #[.slice (some ⟨w.heap.size, 0, none⟩) 1 1, .int .i64 0]
      simpa using this
    · exact (Blk.fresh w 78 #[.pointer none, .int .i64 0]).alloc _
    · have h0 : i = 0 := by simpa using hi
      subst h0
      exact Tr.nil _ _ _ fun _ _ => rfl
  clear hJ hS0
  go_enter Try.func11, Try.ntmps11
  go_upto_region 4 with fail
  rw [← hW1]
  clear hW1 hmk
  go_wp2_with fail
  go_loopw [17, 6] (fun x ov wr => ∃ (i vc : Nat) (vA : Option Addr) (rv dv : Nat → Value), x = .int .i64 i ∧ i ≤ m ∧ Hid (Fo w.heap.size (w.heap.size + 1) (S i) vA vc rv wr) ∧ Hid (wr.ownsRow w.heap.size 46 4 ov i (shoL Q dv i)) ∧ Hid (∀ j, j < i → DatT wr (dv j) (Q j).len (Q j).d) ∧ Hid (New w wr)) (fun x _ _ => m - (intOf x).toNat)
  case atStart => exact ⟨0, _, _, _, fun _ => .slice none 0 0, rfl, by omega, hFo, World.ownsRow_nil _ _ _ _, fun j hj => absurd hj (Nat.not_lt_zero j), hN1⟩
  case round =>
    obtain ⟨i, vc, vA, rv, dv, rfl, hi, hD, hO, hR, hN⟩ := hrel
    by_cases hlt : i < m
    · obtain ⟨b, off, rfl, hb, hc⟩ := hJH.out.2.1 (by omega)
      obtain ⟨hrI, hlc, hcm⟩ := hJH.out.2.2 i hlt
      obtain ⟨e0, e1, e2, e3, e4⟩ := hc i hlt
      replace e0 := (hN.out.cell hb).trans e0
      replace e1 := (hN.out.cell hb).trans e1
      replace e2 := (hN.out.cell hb).trans e2
      replace e3 := (hN.out.cell hb).trans e3
      replace e4 := (hN.out.cell hb).trans e4
      have hil : (i : Int) < (m : Int) := by omega
      have hnz := hN.out.size
      have hstp := Lib.hid (fun (w' : World) (hn' : New wr w') => Step_any w.heap.size (w.heap.size + 1) vc (L i) (X i) (S i) vA (R i) rv (K i) (V i) (O i) (C i) (D i) w' (hD.out.new hn') ⟨(hin.out i).1, by have := (hin.out i).2.1; omega, (hin.out i).2.2⟩ (Nat.le_trans hnz hn'.size) ((RdU.of hrI (Nat.le_refl _)).alt (Alt.of_new (K := fun _ => False) (hN.out.next hn')) fun _ h => h.elim) hlc hcm)
      rw [hst.out i] at hstp
      unfold stepV at hstp
      obtain ⟨k, hk⟩ : ∃ k, Hid (k = K i) := ⟨_, rfl⟩
      obtain ⟨v, hv⟩ : ∃ v, Hid (v = V i) := ⟨_, rfl⟩
      obtain ⟨oo, hoo⟩ : ∃ oo, Hid (oo = O i) := ⟨_, rfl⟩
      obtain ⟨cc, hcc⟩ : ∃ cc, Hid (cc = C i) := ⟨_, rfl⟩
      rw [← hk.out, ← hv.out, ← hoo.out, ← hcc.out] at hstp
      rw [← hk.out] at e0
      rw [← hv.out] at e1
      rw [← hoo.out] at e2
      rw [← hcc.out] at e3
      clear hc hrI
      go_wp2_with fail
      refine (hstp.out _ ((New.refl wr).alloc _)).mono ?_
      rintro e w3 ⟨dvn, vA', vc', rv', rfl, hdt, hD3, hA3⟩
      have hA4 : Alt (KF (w.heap.size + 1) (.slice vA (S i).length vc)) wr w3 := (Alt.of_new ((New.refl wr).alloc _)).trans hA3
      have hno : ∀ g cs t, Blk wr g t cs → t ≠ 65 → t ≠ 78 → ¬ KF (w.heap.size + 1) (.slice vA (S i).length vc) g := fun g cs t hb h1 h2 hk => by
        rcases hk with hk | hk
        · obtain ⟨m', hm'⟩ := hD.out.fbk
          exact blk_ne' hb hm' h1 hk
        · exact own_ne_blk hD.out.vo hb (Ne.symm h2) hk
      have hO3 : w3.ownsRow w.heap.size 46 4 u6 i (shoL Q dv i) := hA4.own hO.out fun g0 hg0 => by
        rcases hO.out.2 with ⟨h0, _⟩ | ⟨g1, cap, cur, h0, _, hg1, _⟩
        · rw [h0] at hg0; cases hg0
        · rw [h0] at hg0
          have : g1 = g0 := by simpa [Value.ownBlock] using hg0
          subst this
          exact hno _ _ _ hg1 (by decide) (by decide)
      have hR3 : ∀ j, j < i → DatT w3 (dv j) (Q j).len (Q j).d := fun j hj => (hR.out j hj).alt hA4 fun b cs hb => hno b cs _ hb (by decide) (by decide)
      have hN3 : New w w3 := hN.out.trans (hA4.below hnz fun k hk => by
        rcases hk with rfl | hk
        · omega
        · exact (hD.out.vo.lt k hk).1)
      obtain ⟨Xa, xl, xc, hdv⟩ : ∃ Xa l c, dvn = .slice Xa l c := by
        obtain ⟨A5, c5, h5, _⟩ := hdt
        exact ⟨_, _, _, h5⟩
      subst hdv
      obtain ⟨q0, hq0⟩ : ∃ q0, Hid (q0 = (Q i).code) := ⟨_, rfl⟩
      obtain ⟨q1, hq1⟩ : ∃ q1, Hid (q1 = (Q i).ver) := ⟨_, rfl⟩
      obtain ⟨q2, hq2⟩ : ∃ q2, Hid (q2 = (Q i).size) := ⟨_, rfl⟩
      have hdt' : DatT w3 (.slice Xa xl xc) (Q i).len (Q i).d := hdt
      have hD3' : Fo w.heap.size (w.heap.size + 1) (S (i + 1)) vA' vc' rv' w3 := hD3
      have hRall := Lib.hid (And.intro hR3 (And.intro hdt' (And.intro hD3' hN3)))
      have hnx := Lib.hid (shoL_more Q dv i (.slice Xa xl xc))
      have hz3 := hN3.size
      show _
      unfold shoV
      dsimp only
      rw [← hq0.out, ← hq1.out, ← hq2.out]
      rw [← hq0.out, ← hq1.out, ← hq2.out] at hnx
      clear hdt hD3 hA3 hR3 hno hA4 hdt' hD3' hN3 hstp
      go_wp2_with (at_builtin; refine wpList_append_own _ rfl _ _ 23 rfl w.heap.size 46 i0 _ 4 48 Try.underlying23 hi0 hz0 hz1 hz2 rfl (by decide) u6 i (shoL Q dv i) rfl (hO3.alloc _) ⟨w3.heap.size, 0, none⟩ 1 1 [.int .i64 q0, .int .i64 (q1 : Nat), .int .i64 (q2 : Nat), .slice Xa xl xc] rfl rfl (World.news_of_block (cs := #[.int .i64 _, .int .i64 _, .int .i64 _, .slice _ _ _]) (t := 46) (fr := (0, 0)) (heap_alloc_new w3 _)) (by simp [Value.oneCell']) (by unfold maxLen; omega) (by omega) (by simp; omega) ?_; intro v4 w4 hown4 hgr4 hnil4)
      have hfin : Hid (Fo w.heap.size (w.heap.size + 1) (S (i + 1)) vA' vc' rv' w4 ∧ w4.ownsRow w.heap.size 46 4 v4 (i + 1) (shoL Q (fun j => if j = i then .slice Xa xl xc else dv j) (i + 1)) ∧ (∀ j, j < i + 1 → DatT w4 ((fun j => if j = i then .slice Xa xl xc else dv j) j) (Q j).len (Q j).d) ∧ New w w4) := by
        obtain ⟨r1, r2, r3, r4⟩ := hRall.out
        have ha : New w3 (w3.alloc (.cells #[.int .i64 q0, .int .i64 (q1 : Nat), .int .i64 (q2 : Nat), .slice Xa xl xc] 46)) := (New.refl w3).alloc _
        have hu4 : ∀ b cs, Blk (w3.alloc (.cells #[.int .i64 q0, .int .i64 (q1 : Nat), .int .i64 (q2 : Nat), .slice Xa xl xc] 46)) b 5 cs → u6.ownBlock ≠ some b := fun b cs hb => own_ne_blk (hO3.alloc _) hb (by decide)
        refine ⟨(r3.new ha).grown (hO3.alloc _) (by decide) (by decide) (by decide) hgr4, by rw [hnx.out]; exact hown4, fun j hj => ?_, (r4.next ha).grown hgr4 fun r e => (hO3.lt r e).1⟩
        by_cases e : j = i
        · subst e
          simp only [if_true]
          exact (r2.new ha).grown hgr4 hu4
        · simp only [if_neg e]
          exact ((r1 j (by omega)).new ha).grown hgr4 hu4
      clear hown4 hgr4 hnil4 hO3
      go_wp2
      go_roundw
      case rel => exact ⟨i + 1, vc', vA', rv', _, by go_num, by omega, hfin.out.1, hfin.out.2.1, hfin.out.2.2.1, hfin.out.2.2.2⟩
      case measure => simp [intOf]; omega
    · have him : m = i := by omega
      subst him
      have hf := Lib.hid (And.intro hO.out (And.intro hR.out hN.out))
      clear hO hR hN
      go_wp2
      exact bodyPost_ret (v := .tuple #[u6, ptr (w.heap.size + 1), .int .i64 0]) (by simp [results, Try.results11, go_sem]) rfl ⟨⟨u6, _, dv, rfl, hf.out.1, hf.out.2.1⟩, hf.out.2.2⟩
theorem Play_of (Q : Nat → Sho) (m : Nat) (cd : Int) (v : Value) (w : World) (h : Calls Try.prog 11 #[v] w (PlT3 Q m cd w)) : Calls Try.prog 5 #[v] w (PlT Q m cd w) := by
  have hH := Lib.hid h
  clear h
  go_enter Try.func5, Try.ntmps5
  go_wp2_with fail
  refine hH.out.mono ?_
  rintro e w1 ⟨⟨v1, p1, dv, rfl, h1, h2⟩, hn⟩
  have hf := Lib.hid (And.intro h1 (And.intro h2 hn))
  clear h1 h2 hn
  dsimp only
  go_wp2
  exact bodyPost_ret (v := .tuple #[v1, .int .i64 cd]) (by simp [results, Try.results5, go_sem]) rfl ⟨⟨v1, dv, rfl, hf.out.1, hf.out.2.1⟩, hf.out.2.2⟩
theorem Play_long (A : Option Addr) (m c : Nat) (Q : Nat → Sho) (w : World) (hm : 300 < m) (hmx : m ≤ maxLen) : Calls Try.prog 5 #[.slice A m c] w (PlT Q 0 1 w) := Play_of Q 0 1 _ w (play_long A m c Q w hm hmx)
theorem Play_ok (m c : Nat) (A : Option Addr) (K V O C : Nat → Int) (R : Nat → Option Addr) (L X : Nat → Nat) (D : Nat → Nat → Nat) (w : World) (hm : m ≤ 300) (hJ : RdS w A m K V O C R L X D) :
    Calls Try.prog 5 #[.slice A m c] w (PlT (shoT K V O C L D) m 0 w) := Play_of _ m 0 _ w (play_ok m c A K V O C R L X D w hm hJ)
end Go.Proofs.Ytiffgeglbafenaa.tree
