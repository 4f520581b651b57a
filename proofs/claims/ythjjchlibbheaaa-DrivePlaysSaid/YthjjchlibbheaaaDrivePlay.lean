/-
  Contracts of Do (whatever the job) and of drive.Play.
-/
import Derived.Test.YthjjchlibbheaaaDriveDo4
namespace Go.Proofs.Ythjjchlibbheaaa.drive
open Go.ChangeShapes Go.WideShapes Go.ChangeAt Go.RowKit Go.Proofs.Ythjjchlibbheaaa.kit Go.Proofs.Ythjjchlibbheaaa.each Go.Deep
set_option linter.unusedVariables false
set_option maxRecDepth 100000
theorem fault_zero {n : Nat} {dead : Bool} {k a : Int} {l : Nat} (h : faultC n dead k a l = 0) : (1 ≤ k ∧ k ≤ 8) ∧ (placedP k → 0 ≤ a ∧ a < n) := by
  unfold faultC at h
  by_cases h1 : k < 1 ∨ 8 < k
  · rw [if_pos h1] at h; cases h
  rw [if_neg h1] at h
  by_cases h2 : dead = true ∧ k ≠ 8
  · rw [if_pos h2] at h; cases h
  rw [if_neg h2] at h
  by_cases h3 : placedP k ∧ (a < 0 ∨ (n : Int) ≤ a)
  · rw [if_pos h3] at h; cases h
  exact ⟨by omega, fun hp => by
    have : ¬ (a < 0 ∨ (n : Int) ≤ a) := fun hc => h3 ⟨hp, hc⟩
    omega⟩
theorem Do_any (base d g n m : Nat) (s : DS) (pv : Nat → Value) (wv : Value) (dv : Nat → Value) (k a p : Int) (R : Option Addr) (l c : Nat) (D : Nat → Nat) (w : World) (h : Dr base d g n s.pl s.br s.ws s.dead pv wv dv w) (hn : n ≤ 512) (hm : s.ws.length = m) (hm3 : m < 300)
    (hJ : RdI .u8 w R l (fun i => (D i : Nat))) (hlc : l ≤ c) (hcm : c ≤ maxLen) (hb : base ≤ w.heap.size) :
    Calls Try.prog 43 #[.pointer (some ⟨d, 0, none⟩), jobV k a p R l c] w (DoP base d g n wv (stepS n s k a p l D) w) := by
  by_cases hf : faultC n s.dead k a l = 0
  · obtain ⟨hk, hp⟩ := fault_zero hf
    have hks : k = 1 ∨ k = 2 ∨ k = 3 ∨ k = 4 ∨ k = 5 ∨ k = 6 ∨ k = 7 ∨ k = 8 := by omega
    rcases hks with rfl | rfl | rfl | rfl | rfl | rfl | rfl | rfl
    · obtain ⟨h1, h2⟩ := hp (by unfold placedP; omega)
      obtain ⟨at_, rfl⟩ := Int.eq_ofNat_of_zero_le h1
      exact Do_put base d g n m s pv wv dv at_ p R l c D w h hn hm hm3 hJ hlc hcm hb (by omega) hf
    · obtain ⟨h1, h2⟩ := hp (by unfold placedP; omega)
      obtain ⟨at_, rfl⟩ := Int.eq_ofNat_of_zero_le h1
      exact Do_get base d g n m s pv wv dv at_ p R l c D w h hn hm hm3 hJ hlc hcm hb (by omega) hf
    · exact Do_flush base d g n m s pv wv dv a p R l c D w h hn hm hm3 hJ hlc hcm hb hf
    · exact Do_crash base d g n m s pv wv dv a p R l c D w h hn hm hm3 hJ hlc hcm hb hf
    · obtain ⟨h1, h2⟩ := hp (by unfold placedP; omega)
      obtain ⟨at_, rfl⟩ := Int.eq_ofNat_of_zero_le h1
      exact Do_break base d g n m s pv wv dv at_ p R l c D w h hn hm hm3 hJ hlc hcm hb (by omega) hf
    · obtain ⟨h1, h2⟩ := hp (by unfold placedP; omega)
      obtain ⟨at_, rfl⟩ := Int.eq_ofNat_of_zero_le h1
      exact Do_rot base d g n m s pv wv dv at_ p R l c D w h hn hm hm3 hJ hlc hcm hb (by omega) hf
    · exact Do_fail base d g n m s pv wv dv a p R l c D w h hn hm hm3 hJ hlc hcm hb hf
    · exact Do_renew base d g n m s pv wv dv a p R l c D w h hn hm hm3 hJ hlc hcm hb hf
  · exact Do_fault base d g n m s pv wv dv k a p R l c D w h hn hm hm3 hJ hlc hcm hb hf
theorem own_chg {K : Nat → Prop} {w w' : World} {b e s n : Nat} {v : Value} {xs : List Value} (h : w.ownsRow b e s v n xs) (hC : Chg K w w') (hK : ∀ g, v.ownBlock = some g → ¬ K g) : w'.ownsRow b e s v n xs := by
  refine ⟨h.1, ?_⟩
  rcases h.2 with h0 | ⟨g, cap, cur, rfl, hb, hg, hr⟩
  · exact .inl h0
  · exact .inr ⟨g, cap, cur, rfl, hb, (hC.same g (Array.getElem?_eq_some_iff.1 hg).1 (hK g rfl)).trans hg, hr⟩
theorem Dat.chg {K : Nat → Prop} {w w' : World} {v : Value} {o : Option (Nat → Nat)} (h : Dat w v o) (hC : Chg K w w') (hK : ∀ b f, RowK 5 .u8 w b 128 f → ¬ K b) : Dat w' v o := by
  cases o with
  | none => exact h
  | some F =>
    obtain ⟨b, c, h1, h2, h3, h4⟩ := h
    exact ⟨b, c, h1, h2, h3, h4.block (hC.same b h4.lt (hK b F h4))⟩
theorem kw_not {base d g n : Nat} {pl : Nat → Option (Nat → Nat)} {br : Nat → Bool} {ws : List (Nat × (Nat → Nat))} {dead : Bool} {pv : Nat → Value} {wv : Value} {dv : Nat → Value} {w : World} (hD : Dr base d g n pl br ws dead pv wv dv w) {b : Nat} {t : TypeId} {cs : Array Value} (hb : Blk w b t cs) (h1 : t ≠ 148) (h2 : t ≠ 156) (h3 : t ≠ 152) : ¬ KW d g wv b := by
  rintro (rfl | rfl | h)
  · exact blk_ne hb hD.bk h1 rfl
  · obtain ⟨cs', hc⟩ := hD.pt.blk
    exact blk_ne hb hc h2 rfl
  · exact own_blk' hD.wo hb (Ne.symm h3) h
/-- jobs, read in memory -/
def RdJ (w : World) (A : Option Addr) (m : Nat) (K B P : Nat → Int) (R : Nat → Option Addr) (L C : Nat → Nat) (D : Nat → Nat → Nat) : Prop :=
  m ≤ maxLen ∧ (0 < m → ∃ b off, A = some ⟨b, off, none⟩ ∧ b < w.heap.size ∧ ∀ i, i < m → w.cell? ⟨b, off + i * 4, none⟩ = some (.int .i64 (K i)) ∧ w.cell? ⟨b, off + i * 4 + 1, none⟩ = some (.int .i64 (B i)) ∧ w.cell? ⟨b, off + i * 4 + 2, none⟩ = some (.int .i64 (P i)) ∧ w.cell? ⟨b, off + i * 4 + 3, none⟩ = some (.slice (R i) (L i) (C i))) ∧
  ∀ i, i < m → RdI .u8 w (R i) (L i) (fun k => (D i k : Nat)) ∧ L i ≤ C i ∧ C i ≤ maxLen
theorem RdJ.new {w w' : World} {A : Option Addr} {m : Nat} {K B P : Nat → Int} {R : Nat → Option Addr} {L C : Nat → Nat} {D : Nat → Nat → Nat} (h : RdJ w A m K B P R L C D) (hn : New w w') : RdJ w' A m K B P R L C D :=
  ⟨h.1, fun h0 => by
    obtain ⟨b, off, hA, hb, hc⟩ := h.2.1 h0
    exact ⟨b, off, hA, Nat.lt_of_lt_of_le hb hn.size, fun i hi => ⟨(hn.cell hb).trans (hc i hi).1, (hn.cell hb).trans (hc i hi).2.1, (hn.cell hb).trans (hc i hi).2.2.1, (hn.cell hb).trans (hc i hi).2.2.2⟩⟩, fun i hi => ⟨(h.2.2 i hi).1.new hn, (h.2.2 i hi).2⟩⟩
/-- answers, as cells -/
def rpL (S : Nat → Int × Option (Nat → Nat)) (rv : Nat → Value) (m : Nat) : List Value := (List.range m).flatMap fun i => [.int .i64 (S i).1, rv i]
theorem rpL_more (S : Nat → Int × Option (Nat → Nat)) (rv : Nat → Value) (m : Nat) (v : Value) : rpL S (fun i => if i = m then v else rv i) (m + 1) = rpL S rv m ++ [.int .i64 (S m).1, v] := by
  unfold rpL
  rw [List.range_succ, List.flatMap_append]
  congr 1
  · rw [List.flatMap_def, List.flatMap_def]
    congr 1
    apply List.map_congr_left
    intro i hi
    have hi := List.mem_range.1 hi
    simp [show i ≠ m by omega]
  · simp
theorem rpL_at (S : Nat → Int × Option (Nat → Nat)) (rv : Nat → Value) {m i : Nat} (h : i < m) : (rpL S rv m)[i * 2]? = some (.int .i64 (S i).1) ∧ (rpL S rv m)[i * 2 + 1]? = some (rv i) := flat2_at (fun i => (.int .i64 (S i).1, rv i)) m i h
theorem infoRep : (Try.prog.info? 95).map (fun i => (i.zero, i.size, i.bytes)) = some (some (.agg #[.int .i64 0, .slice none 0 0]), 2, 32) := by kernel_rfl
/-- what a play answers -/
def PlP (S : Nat → Int × Option (Nat → Nat)) (m : Nat) (cd : Int) (w : World) (e : Ending) (w' : World) : Prop :=
  (∃ v rv, e = .returned (.tuple #[v, .int .i64 cd]) ∧ w'.ownsRow w.heap.size 95 2 v m (rpL S rv m) ∧ ∀ j, j < m → Dat w' (rv j) (S j).2) ∧ New w w'
theorem PlP.no {S : Nat → Int × Option (Nat → Nat)} {cd : Int} {w w' : World} {e : Ending} (he : e = .returned (.tuple #[.slice none 0 0, .int .i64 cd])) (hn : New w w') : PlP S 0 cd w e w' :=
  ⟨⟨_, fun _ => .slice none 0 0, he, World.ownsRow_nil _ _ _ _, fun j hj => absurd hj (Nat.not_lt_zero j)⟩, hn⟩
theorem Play_bad (n : Int) (v : Value) (S : Nat → Int × Option (Nat → Nat)) (w : World) (h : n < 1 ∨ 512 < n) : Calls Try.prog 19 #[.int .i64 n, v] w (PlP S 0 2 w) := by
  by_cases h1 : n < 1
  · clear h
    go_enter Try.func19, Try.ntmps19
    go_wp2
    exact bodyPost_ret (v := .tuple #[.slice none 0 0, .int .i64 2]) (by simp [results, Try.results19, go_sem]) rfl (PlP.no rfl (New.refl _))
  · have h2 : 512 < n := by omega
    clear h
    go_enter Try.func19, Try.ntmps19
    go_wp2
    exact bodyPost_ret (v := .tuple #[.slice none 0 0, .int .i64 2]) (by simp [results, Try.results19, go_sem]) rfl (PlP.no rfl (New.refl _))
theorem Play_long (n : Int) (A : Option Addr) (m c : Nat) (S : Nat → Int × Option (Nat → Nat)) (w : World) (h : 1 ≤ n ∧ n ≤ 512) (hm : 300 < m) (hmx : m ≤ maxLen) : Calls Try.prog 19 #[.int .i64 n, .slice A m c] w (PlP S 0 1 w) := by
  have h1 : ¬ n < 1 := by omega
  have h2 : ¬ 512 < n := by omega
  unfold maxLen at hmx
  have hm3 : (300 : Int) < (m : Int) := by omega
  clear h
  go_enter Try.func19, Try.ntmps19
  go_wp2
  exact bodyPost_ret (v := .tuple #[.slice none 0 0, .int .i64 1]) (by simp [results, Try.results19, go_sem]) rfl (PlP.no rfl (New.refl _))
set_option maxHeartbeats 2000000 in
theorem Play_ok (n m c : Nat) (A : Option Addr) (K B P : Nat → Int) (R : Nat → Option Addr) (L C : Nat → Nat) (D : Nat → Nat → Nat) (w : World) (h1 : 1 ≤ n) (hn : n ≤ 512) (hm : m ≤ 300) (hJ : RdJ w A m K B P R L C D) :
    Calls Try.prog 19 #[.int .i64 n, .slice A m c] w (PlP (repS n K B P L D) m 0 w) := by
  obtain ⟨i0, hi0, hz0, hz1, hz2⟩ := info_parts infoRep
  have hJH := Lib.hid hJ
  have g1 : ¬ (n : Int) < 1 := by omega
  have g2 : ¬ (512 : Int) < (n : Int) := by omega
  have g3 : ¬ (300 : Int) < (m : Int) := by omega
  obtain ⟨S, hS⟩ : ∃ S, Hid (S = runS n K B P L D) := ⟨_, rfl⟩
  obtain ⟨Q, hQ⟩ : ∃ Q, Hid (Q = repS n K B P L D) := ⟨_, rfl⟩
  rw [← hQ.out]
  have hin : Hid (∀ i, InS n i (S i)) := fun i => by rw [hS.out]; exact run_in n K B P L D i
  have hst : Hid (∀ i, stepS n (S i) (K i) (B i) (P i) (L i) (D i) = (S (i + 1), Q i)) := fun i => by rw [hS.out, hQ.out]; rfl
  have hS0 : S 0 = DS.fresh := by rw [hS.out]; rfl
  clear hJ
  go_enter Try.func19, Try.ntmps19
  go_wp2_with fail
  refine (New_any n hn _).mono ?_
  rintro e w1 ⟨rfl, hD1, hn1⟩
  have hD0 : Hid (Dr w.heap.size (w.heap.size + 1) w.heap.size n (S 0).pl (S 0).br (S 0).ws (S 0).dead (fun _ => .slice none 0 0) (.slice none 0 0) (fun _ => .slice none 0 0) w1) := by rw [hS0]; exact hD1
  clear hD1 hS0
  go_wp2_with fail
  go_loopw [23, 7] (fun x ov wr => ∃ (i g : Nat) (pv : Nat → Value) (wv : Value) (dv rv : Nat → Value), x = .int .i64 i ∧ i ≤ m ∧ Hid (Dr w.heap.size (w.heap.size + 1) g n (S i).pl (S i).br (S i).ws (S i).dead pv wv dv wr) ∧ Hid (wr.ownsRow w.heap.size 95 2 ov i (rpL Q rv i)) ∧ Hid (∀ j, j < i → Dat wr (rv j) (Q j).2) ∧ Hid (New w wr)) (fun x _ _ => m - (intOf x).toNat)
  case atStart => exact ⟨0, w.heap.size, _, _, _, fun _ => .slice none 0 0, rfl, by omega, hD0, World.ownsRow_nil _ _ _ _, fun j hj => absurd hj (Nat.not_lt_zero j), hn1⟩
  case round =>
    obtain ⟨i, g, pv, wv, dv, rv, rfl, hi, hD, hO, hR, hN⟩ := hrel
    by_cases hlt : i < m
    · obtain ⟨b, off, rfl, hb, hc⟩ := hJH.out.2.1 (by omega)
      obtain ⟨hrI, hlc, hcm⟩ := hJH.out.2.2 i hlt
      obtain ⟨e0, e1, e2, e3⟩ := hc i hlt
      replace e0 := (hN.out.cell hb).trans e0
      replace e1 := (hN.out.cell hb).trans e1
      replace e2 := (hN.out.cell hb).trans e2
      replace e3 := (hN.out.cell hb).trans e3
      have hwl := (hin.out i).1
      have hil : (i : Int) < (m : Int) := by omega
      have hnz := hN.out.size
      have hdo := Lib.hid (fun (w' : World) (hn' : New wr w') => Do_any w.heap.size (w.heap.size + 1) g n _ (S i) pv wv dv (K i) (B i) (P i) (R i) (L i) (C i) (D i) w' (hD.out.new hn') hn rfl (by omega) (hrI.new (hN.out.next hn')) hlc hcm (Nat.le_trans hnz hn'.size))
      rw [hst.out i] at hdo
      obtain ⟨k, hk⟩ : ∃ k, Hid (k = K i) := ⟨_, rfl⟩
      obtain ⟨bb, hbb⟩ : ∃ bb, Hid (bb = B i) := ⟨_, rfl⟩
      obtain ⟨pp, hpp⟩ : ∃ pp, Hid (pp = P i) := ⟨_, rfl⟩
      rw [← hk.out, ← hbb.out, ← hpp.out] at hdo
      rw [← hk.out] at e0
      rw [← hbb.out] at e1
      rw [← hpp.out] at e2
      clear hc hrI
      go_wp2_with fail
      refine (hdo.out _ ((New.refl wr).alloc _)).mono ?_
      rintro e w3 ⟨rvn, g', pv', wv', dv', rfl, hdt, hD3, hC3⟩
      have hC4 : Chg (KW (w.heap.size + 1) g wv) wr w3 := (Chg.of_new ((New.refl wr).alloc _)).trans hC3
      have hO3 : w3.ownsRow w.heap.size 95 2 u7 i (rpL Q rv i) := own_chg hO.out hC4 fun g0 hg0 => by
        rcases hO.out.2 with ⟨h0, _⟩ | ⟨g1, cap, cur, h0, _, hg1, _⟩
        · rw [h0] at hg0; cases hg0
        · rw [h0] at hg0
          have : g1 = g0 := by simpa [Value.ownBlock] using hg0
          subst this
          exact kw_not hD.out hg1 (by decide) (by decide) (by decide)
      have hu : ∀ b f, RowK 5 .u8 wr b 128 f → ¬ KW (w.heap.size + 1) g wv b := fun b f hr => by
        obtain ⟨cs, hc, _⟩ := hr
        exact kw_not hD.out hc (by decide) (by decide) (by decide)
      have hR3 : ∀ j, j < i → Dat w3 (rv j) (Q j).2 := fun j hj => (hR.out j hj).chg hC4 hu
      have hN3 : New w w3 := hN.out.trans (hC4.below hnz fun k hk => by
        rcases hk with rfl | rfl | hk
        · omega
        · exact hD.out.lo.2
        · exact (hD.out.wo.lt k hk).1)
      obtain ⟨X, xl, xc, rfl⟩ : ∃ X l c, rvn = .slice X l c := by
        have h5 : Dat w3 rvn (Q i).2 := hdt
        cases hq : (Q i).2 with
        | none => rw [hq] at h5; exact ⟨_, _, _, h5⟩
        | some F => rw [hq] at h5; obtain ⟨b, c, e, _⟩ := h5; exact ⟨_, _, _, e⟩
      obtain ⟨qc, hqc⟩ : ∃ qc, Hid (qc = (Q i).1) := ⟨_, rfl⟩
      have hdt' : Dat w3 (.slice X xl xc) (Q i).2 := hdt
      have hD3' : Dr w.heap.size (w.heap.size + 1) g' n (S (i + 1)).pl (S (i + 1)).br (S (i + 1)).ws (S (i + 1)).dead pv' wv' dv' w3 := hD3
      have hRall := Lib.hid (And.intro hR3 (And.intro hdt' (And.intro hD3' hN3)))
      have hnx := Lib.hid (rpL_more Q rv i (.slice X xl xc))
      have hz3 := hN3.size
      show _
      dsimp only
      rw [← hqc.out]
      rw [← hqc.out] at hnx
      clear hdt hD3 hC3 hR3 hu hC4 hdt' hD3' hN3 hdo
      go_wp2_with (at_builtin; refine wpList_append_own _ rfl _ _ 39 rfl w.heap.size 95 i0 _ 2 32 Try.underlying39 hi0 hz0 hz1 hz2 rfl (by decide) u7 i (rpL Q rv i) rfl (hO3.alloc _) ⟨w3.heap.size, 0, none⟩ 1 1 [.int .i64 qc, .slice X xl xc] rfl rfl (World.news_of_block (cs := #[.int .i64 _, .slice _ _ _]) (t := 95) (fr := (0, 0)) (heap_alloc_new w3 _)) (by simp [Value.oneCell']) (by unfold maxLen; omega) (by omega) (by simp; omega) ?_; intro v4 w4 hown4 hgr4 hnil4)
      have hfin : Hid (Dr w.heap.size (w.heap.size + 1) g' n (S (i + 1)).pl (S (i + 1)).br (S (i + 1)).ws (S (i + 1)).dead pv' wv' dv' w4 ∧ w4.ownsRow w.heap.size 95 2 v4 (i + 1) (rpL Q (fun j => if j = i then .slice X xl xc else rv j) (i + 1)) ∧ (∀ j, j < i + 1 → Dat w4 ((fun j => if j = i then .slice X xl xc else rv j) j) (Q j).2) ∧ New w w4) := by
        obtain ⟨q1, q2, q3, q4⟩ := hRall.out
        have ha : New w3 (w3.alloc (.cells #[.int .i64 qc, .slice X xl xc] 95)) := (New.refl w3).alloc _
        have hu4 : ∀ b f, RowK 5 .u8 (w3.alloc (.cells #[.int .i64 qc, .slice X xl xc] 95)) b 128 f → u7.ownBlock ≠ some b := fun b f hr => hr.ne_own (hO3.alloc _) (by decide)
        refine ⟨(q3.new ha).far (hO3.alloc _) (by decide) (by decide) (by decide) (by decide) hgr4, by rw [hnx.out]; exact hown4, fun j hj => ?_, (q4.next ha).grown hgr4 fun r e => (hO3.lt r e).1⟩
        by_cases e : j = i
        · subst e
          simp only [if_true]
          exact (q2.new ha).grown hgr4 hu4
        · simp only [if_neg e]
          exact ((q1 j (by omega)).new ha).grown hgr4 hu4
      clear hown4 hgr4 hnil4 hO3
      go_wp2
      go_roundw
      case rel => exact ⟨i + 1, g', pv', wv', dv', _, by go_num, by omega, hfin.out.1, hfin.out.2.1, hfin.out.2.2.1, hfin.out.2.2.2⟩
      case measure => simp [intOf]; omega
    · have him : m = i := by omega
      subst him
      have hf := Lib.hid (And.intro hO.out (And.intro hR.out hN.out))
      clear hO hR hN
      go_wp2
      exact bodyPost_ret (v := .tuple #[u7, .int .i64 0]) (by simp [results, Try.results19, go_sem]) rfl ⟨⟨u7, rv, rfl, hf.out.1, hf.out.2.1⟩, hf.out.2.2⟩
end Go.Proofs.Ythjjchlibbheaaa.drive
