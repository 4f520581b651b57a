/-
  Contract of the reference's TreePlayed.
-/
import Derived.Test.YtiffgeglbafenaaTreeRefMem
namespace Go.Proofs.Ytiffgeglbafenaa.tree
open Go.ChangeShapes Go.WideShapes Go.ChangeAt Go.RowKit Go.Proofs.Ytiffgeglbafenaa.kit Go.Deep
set_option linter.unusedVariables false
theorem infoStep : (Try.prog.info? 44).map (fun i => (i.zero, i.size, i.bytes)) = some (some (.agg #[.int .i64 0, .int .i64 0, .int .i64 0, .int .i64 0, .slice none 0 0]), 5, 56) := by kernel_rfl
theorem infoSl : (Try.prog.info? 42).map (fun i => (i.zero, i.size, i.bytes)) = some (some (.slice none 0 0), 1, 24) := by kernel_rfl
theorem Rf.alt {B i xb : Nat} {vs : List Ver} {Q : Nat → Sho} {vv : Value} {sv : Nat → Value} {ov : Value} {dv : Nat → Value} {w w' : World} {cs : Array Value} (h : Rf B i vs Q vv sv ov dv w) (ha : Alt (fun k => k = xb) w w') (hb : Blk w xb 46 cs) (ho : ov.ownBlock ≠ some xb) : Rf B i vs Q vv sv ov dv w' :=
  ⟨ha.own h.vo fun g hg e => own_ne_blk h.vo hb (by decide) (by rw [hg, e]), fun j hj => (h.vt j hj).alt ha fun b cs' hn e => blk_ne' hn hb (by decide) e, ha.own h.oo fun g hg e => ho (by rw [hg, e]), fun j hj => (h.od j hj).alt ha fun b cs' hn e => blk_ne' hn hb (by decide) e⟩
theorem DatT.of_own {w : World} {B n : Nat} {v : Value} {F : Nat → Nat} (h : w.ownsRow B 5 1 v n (numL .u8 F n)) : DatT w v n F := by
  obtain ⟨A, c, rfl, h1, h2, h3, h4⟩ := own_open h
  rcases Nat.eq_zero_or_pos n with h0 | h0
  · subst h0
    rcases h.2 with ⟨he, _⟩ | ⟨g, cap, cur, he, _, hg, _⟩
    · injection he with e1 e2 e3
      subst e1
      subst e3
      exact DatT.nil _ _
    · injection he with e1 e2 e3
      subst e1
      exact ⟨_, c, rfl, h1, h2, .inr ⟨g, rfl, ⟨cur, hg, fun j hj => absurd hj (Nat.not_lt_zero j)⟩⟩⟩
  · obtain ⟨g, rfl, _, _⟩ := h3 h0
    exact ⟨_, c, rfl, h1, h2, .inr ⟨g, rfl, RowK.of_own h⟩⟩
theorem numL_more (k : IntKind) (F : Nat → Nat) (n : Nat) : numL k F (n + 1) = numL k F n ++ [.int k (F n : Nat)] := by simp [numL, List.range_succ]
theorem RCut.show {w0 wq : World} {i xb n o q : Nat} {vs vs' : List Ver} {x : Ver} {x' : Sho} {Q : Nat → Sho} {ov vv dvt : Value} {sv dv : Nat → Value} (h : Rf w0.heap.size i vs Q vv sv ov dv wq) (hb : Blk wq xb 46 #[.int .i64 0, .int .i64 0, .int .i64 (x.size : Nat), dvt]) (hd : DatT wq dvt n (fun j => x.f (o + j))) (hl : n = if x.size ≤ o then 0 else min q (x.size - o)) (hn : New w0 wq) (e : (vs, x.show o q) = (vs', x')) : RCut w0 i vs' x' Q xb ov dv vv wq := by
  obtain ⟨rfl, rfl⟩ := Prod.mk.inj e
  exact ⟨sv, dvt, h, hb, by show DatT wq dvt (if x.size ≤ o then 0 else min q (x.size - o)) _; rw [← hl]; exact hd, hn⟩
set_option maxRecDepth 100000 in
theorem Ref_long (A : Option Addr) (m c : Nat) (Q : Nat → Sho) (w : World) (hm : 300 < m) (hmx : m ≤ maxLen) : Calls Try.prog 6 #[.slice A m c] w (PlT Q 0 1 w) := by
  unfold maxLen at hmx
  have hm3 : (300 : Int) < (m : Int) := by omega
  go_enter Try.func6, Try.ntmps6
  go_wp2
  exact bodyPost_ret (v := .tuple #[.slice none 0 0, .int .i64 1]) (by simp [results, Try.results6, go_sem]) rfl (PlT.no rfl (New.refl _))
set_option maxHeartbeats 40000000 in
set_option maxRecDepth 100000 in
theorem Ref_ok (m c : Nat) (A : Option Addr) (K V O C : Nat → Int) (R : Nat → Option Addr) (L X : Nat → Nat) (D : Nat → Nat → Nat) (w : World) (hm : m ≤ 300) (hJ : RdS w A m K V O C R L X D) :
    Calls Try.prog 6 #[.slice A m c] w (PlT (shoT K V O C L D) m 0 w) := by
  obtain ⟨i0, hi0, hz0, hz1, hz2⟩ := info_parts infoSho
  obtain ⟨b0, hb0, hy0, hy1, hy2⟩ := info_parts infoSl
  obtain ⟨u0, hu0, hx0, hx1, hx2⟩ := info_parts infoU8
  have hszU : Hid ((Try.prog.info? 5).map (·.size) = some 1) := infoU8s
  have hJH := Lib.hid hJ
  have g3 : ¬ (300 : Int) < (m : Int) := by omega
  obtain ⟨S, hS⟩ : ∃ S, Hid (S = runT K V O C L D) := ⟨_, rfl⟩
  obtain ⟨Q, hQ⟩ : ∃ Q, Hid (Q = shoT K V O C L D) := ⟨_, rfl⟩
  rw [← hQ.out]
  have hin : Hid (∀ i, InT i (S i)) := fun i => by rw [hS.out]; exact run_inT K V O C L D i
  have hst : Hid (∀ i, stepT (S i) (K i) (V i) (O i) (C i) (L i) (D i) = (S (i + 1), Q i)) := fun i => by rw [hS.out, hQ.out]; rfl
  have hS0 : S 0 = [Ver.none] := by rw [hS.out]; rfl
  obtain ⟨W1, hW1⟩ : ∃ W1, W1 = w.alloc (.cells #[.slice none 0 0] 42) := ⟨_, rfl⟩
  have hN1 : Hid (New w W1) := by show New w W1; rw [hW1]; exact (New.refl w).alloc _
  have hRf : Hid (Rf w.heap.size 0 (S 0) Q (.slice (some ⟨w.heap.size, 0, none⟩) 1 1) (fun _ => .slice none 0 0) (.slice none 0 0) (fun _ => .slice none 0 0) W1) := by
    show Rf _ _ _ _ _ _ _ _ _
    rw [hS0, hW1]
    refine ⟨⟨rfl, .inr ⟨w.heap.size, 1, #[.slice none 0 0], rfl, Nat.le_refl _, Blk.fresh w _ _, Nat.le_refl _, by unfold maxLen; omega, rfl, rfl⟩⟩, fun j hj => ?_, World.ownsRow_nil _ _ _ _, fun j hj => absurd hj (Nat.not_lt_zero j)⟩
    have h0 : j = 0 := by simpa using hj
    subst h0
    exact DatT.nil _ _
  clear hJ hS0
  go_enter Try.func6, Try.ntmps6
  go_upto_region 4 with fail
  rw [← hW1]
  clear hW1
  go_wp2_with fail
  go_loopw [19, 4, 5] (fun x vv ov wr => ∃ (i : Nat) (sv dv : Nat → Value), x = .int .i64 i ∧ i ≤ m ∧ Hid (Rf w.heap.size i (S i) Q vv sv ov dv wr) ∧ Hid (New w wr)) (fun x _ _ _ => m - (intOf x).toNat)
  case atStart => exact ⟨0, _, _, rfl, by omega, hRf, hN1⟩
  case round =>
    obtain ⟨i, sv, dv, rfl, hi, hR, hN⟩ := hrel
    by_cases hlt : i < m
    · obtain ⟨b, off, rfl, hb, hc⟩ := hJH.out.2.1 (by omega)
      obtain ⟨hrI, hlc, hcm⟩ := hJH.out.2.2 i hlt
      obtain ⟨e0, e1, e2, e3, e4⟩ := hc i hlt
      replace e0 := (hN.out.cell hb).trans e0
      replace e1 := (hN.out.cell hb).trans e1
      replace e2 := (hN.out.cell hb).trans e2
      replace e3 := (hN.out.cell hb).trans e3
      replace e4 := (hN.out.cell hb).trans e4
      have hil : (i : Int) < (m : Int) := by omega
      have he := hst.out i
      obtain ⟨k, hk⟩ : ∃ k, Hid (k = K i) := ⟨_, rfl⟩
      obtain ⟨v, hv⟩ : ∃ v, Hid (v = V i) := ⟨_, rfl⟩
      obtain ⟨oo, hoo⟩ : ∃ oo, Hid (oo = O i) := ⟨_, rfl⟩
      obtain ⟨cc, hcc⟩ : ∃ cc, Hid (cc = C i) := ⟨_, rfl⟩
      obtain ⟨JA, hJA⟩ : ∃ JA, Hid (JA = R i) := ⟨_, rfl⟩
      obtain ⟨l, hl⟩ : ∃ l, Hid (l = L i) := ⟨_, rfl⟩
      obtain ⟨jc, hjc⟩ : ∃ jc, Hid (jc = X i) := ⟨_, rfl⟩
      obtain ⟨dd, hdD⟩ : ∃ dd, Hid (dd = D i) := ⟨_, rfl⟩
      obtain ⟨s, hs⟩ : ∃ s, Hid (s = S i) := ⟨_, rfl⟩
      obtain ⟨s', hs'⟩ : ∃ s', Hid (s' = S (i + 1)) := ⟨_, rfl⟩
      obtain ⟨xq, hxq⟩ : ∃ xq, Hid (xq = Q i) := ⟨_, rfl⟩
      rw [← hk.out, ← hv.out, ← hoo.out, ← hcc.out, ← hl.out, ← hdD.out, ← hs.out, ← hs'.out, ← hxq.out] at he
      rw [← hk.out] at e0
      rw [← hv.out] at e1
      rw [← hoo.out] at e2
      rw [← hcc.out] at e3
      rw [← hJA.out, ← hl.out, ← hjc.out] at e4
      rw [← hJA.out, ← hl.out, ← hdD.out] at hrI
      rw [← hl.out, ← hjc.out] at hlc
      rw [← hjc.out] at hcm
      rw [← hs.out] at hR
      have hsl : Hid (InT i s) := by rw [hs.out]; exact hin.out i
      have hslen : s.length ≤ 301 := by have := hsl.out.2.1; omega
      have heH := Lib.hid he
      have hrIH := Lib.hid hrI
      unfold maxLen at hcm
      clear he hrI hc
      go_upto_block 2 with fail
      obtain ⟨W2, hW2⟩ : ∃ W2, W2 = (wr.alloc (.cells #[.int .i64 k, .int .i64 v, .int .i64 oo, .int .i64 cc, .slice JA l jc] 44)).alloc (.cells #[.int .i64 0, .int .i64 0, .int .i64 0, .slice none 0 0] 46) := ⟨_, rfl⟩
      rw [← hW2]
      have hn2 : New wr W2 := by rw [hW2]; exact ((New.refl wr).alloc _).alloc _
      have bJ : Blk W2 wr.heap.size 44 #[.int .i64 k, .int .i64 v, .int .i64 oo, .int .i64 cc, .slice JA l jc] := by rw [hW2]; exact (Blk.fresh wr _ _).alloc _
      have hbx : Hid (Blk W2 (wr.heap.size + 1) 46 sho0) := by
        have := Blk.fresh (wr.alloc (.cells #[.int .i64 k, .int .i64 v, .int .i64 oo, .int .i64 cc, .slice JA l jc] 44)) 46 sho0
        show Blk _ _ _ _
        rw [hW2]
        simpa using this
      have hox : Hid (u5.ownBlock ≠ some (wr.heap.size + 1)) := fun he => by have := (hR.out.oo.lt _ he).2; omega
      have hR2 := Lib.hid (hR.out.new hn2)
      have hN2 := Lib.hid (hN.out.next hn2)
      have hlo : w.heap.size ≤ wr.heap.size + 1 := Nat.le_succ_of_le hN.out.size
      have hsz2 : wr.heap.size + 1 < W2.heap.size := by rw [hW2]; simp
      have hrd := Lib.hid (hrIH.out.new hN2.out)
      obtain ⟨vA, vc, hvv, hv1, hv2, hv3, hv4⟩ := own_open hR2.out.vo
      subst hvv
      obtain ⟨xb, hxb⟩ : ∃ xb, Hid (xb = wr.heap.size + 1) := ⟨_, rfl⟩
      rw [← hxb.out] at hbx hox hlo hsz2 ⊢
      obtain ⟨jb, hjb⟩ : ∃ jb, Hid (jb = wr.heap.size) := ⟨_, rfl⟩
      rw [← hjb.out] at bJ ⊢
      have hjx : jb ≠ xb := by have := hxb.out; have := hjb.out; omega
      have hv3H := Lib.hid hv3
      have hv4H := Lib.hid hv4
      clear hW2 e0 e1 e2 e3 e4 hR hN hn2 hv3 hv4
      go_cut [4] (fun vv wx => RCut w i s' xq Q xb u5 dv vv wx)
      case first =>
        have d0 := bJ.cell 0
        have d1 := bJ.cell 1
        have d2 := bJ.cell 2
        have d3 := bJ.cell 3
        have d4 := bJ.cell 4
        have x0 := hbx.out.cell 0
        have y0 := hbx.out.frozen 0
        simp at d0 d1 d2 d3 d4 x0
        have bJH := Lib.hid bJ
        clear bJ
        by_cases hk1 : k = 1
        · subst hk1
          have hkk : Hid (¬ ((1 : Int) < 1 ∨ 3 < (1 : Int))) := by show ¬ _; omega
          by_cases hv0 : v < 0
          · have hvH : Hid (v < 0 ∨ (s.length : Int) ≤ v) := .inl hv0
            as_aux_lemma =>
              go_wp2
              go_meet
              exact RCut.no hR2.out hbx.out hox.out hN2.out hlo 2 ((step_no (cd_ver hkk.out hvH.out)).symm.trans heH.out)
          by_cases hv5 : (s.length : Int) ≤ v
          · have hvH : Hid (v < 0 ∨ (s.length : Int) ≤ v) := .inr hv5
            as_aux_lemma =>
              go_wp2
              go_meet
              exact RCut.no hR2.out hbx.out hox.out hN2.out hlo 2 ((step_no (cd_ver hkk.out hvH.out)).symm.trans heH.out)
          have hvn : Hid (¬ (v < 0 ∨ (s.length : Int) ≤ v)) := by show ¬ _; omega
          obtain ⟨vi, rfl⟩ : ∃ vi : Nat, (vi : Int) = v := ⟨v.toNat, by omega⟩
          have hvi : vi < s.length := by omega
          have hvi0 : (0 : Int) ≤ (vi : Int) := by omega
          by_cases hoff : oo < 0
          · have hcH := Lib.hid hoff
            as_aux_lemma =>
              go_wp2
              go_meet
              exact RCut.no hR2.out hbx.out hox.out hN2.out hlo 2 ((step_no (cd_off hkk.out hvn.out rfl hcH.out)).symm.trans heH.out)
          have hoffn : Hid (¬ oo < 0) := hoff
          by_cases hl0 : l = 0
          · subst hl0
            as_aux_lemma =>
              go_wp2
              go_meet
              exact RCut.no hR2.out hbx.out hox.out hN2.out hlo 1 ((step_no (cd_len hkk.out hvn.out rfl (by have := hoffn.out; omega) (.inl rfl))).symm.trans heH.out)
          have hl1 : ((l : Int) == 0) = false := by simp; omega
          by_cases hl2 : 4096 < (l : Int)
          · have hcH : Hid (l = 0 ∨ 4096 < oo + l) := .inr (by omega)
            as_aux_lemma =>
              go_wp2
              go_meet
              exact RCut.no hR2.out hbx.out hox.out hN2.out hlo 1 ((step_no (cd_len hkk.out hvn.out rfl (by have := hoffn.out; omega) hcH.out)).symm.trans heH.out)
          by_cases hl3 : 4096 < oo
          · have hcH : Hid (l = 0 ∨ 4096 < oo + l) := .inr (by omega)
            as_aux_lemma =>
              go_wp2
              go_meet
              exact RCut.no hR2.out hbx.out hox.out hN2.out hlo 1 ((step_no (cd_len hkk.out hvn.out rfl (by have := hoffn.out; omega) hcH.out)).symm.trans heH.out)
          by_cases hl4 : 4096 < oo + (l : Int)
          · have hcH : Hid (l = 0 ∨ 4096 < oo + l) := .inr hl4
            as_aux_lemma =>
              go_wp2
              go_meet
              exact RCut.no hR2.out hbx.out hox.out hN2.out hlo 1 ((step_no (cd_len hkk.out hvn.out rfl (by have := hoffn.out; omega) hcH.out)).symm.trans heH.out)
          have hcH : Hid (¬ (l = 0 ∨ 4096 < oo + l)) := by show ¬ _; omega
          obtain ⟨o, rfl⟩ : ∃ o : Nat, (o : Int) = oo := ⟨oo.toNat, by omega⟩
          obtain ⟨x, hx⟩ : ∃ x, Hid (x = s.getD vi Ver.none) := ⟨_, rfl⟩
          have hxf : Hid x.fine := by rw [hx.out]; exact getD_fine hsl.out.2.2 vi
          obtain ⟨sz, hsz⟩ : ∃ sz, Hid (sz = x.size) := ⟨_, rfl⟩
          have hsz4 : sz ≤ 4096 := by rw [hsz.out]; exact hxf.out.1
          obtain ⟨vg, rfl, hvg1, hvg2⟩ := hv3H.out (by omega)
          have hnow := hR2.out.vt vi hvi
          rw [← hx.out, ← hsz.out] at hnow
          obtain ⟨nA, nc, hsv, hn1, hn2, hn3⟩ := hnow
          have vcell := hv4H.out vg rfl vi (sv vi) (by simp [hvi])
          rw [hsv] at vcell
          have hn3H := Lib.hid hn3
          have hsvH := Lib.hid hsv
          unfold maxLen at hn2
          clear hn3 hsv
          have hee0 : Hid ((s ++ [x.put o l dd], (⟨0, s.length, (x.put o l dd).size, 0, fun _ => 0⟩ : Sho)) = (s', xq)) := by
            show _ = _
            rw [← heH.out, step1T (codeT_ok hkk.out hvn.out (fun _ => ⟨by omega, hcH.out⟩) (fun h => by cases h) (fun h => by cases h)), ← hx.out]
            rfl
          obtain ⟨SZ, hSZ⟩ : ∃ SZ, Hid (SZ = max sz (o + l)) := ⟨_, rfl⟩
          have hSZx : Hid ((x.put o l dd).size = SZ) := by show _ = _; rw [hSZ.out, hsz.out]; rfl
          have hSZ4 : SZ ≤ 4096 := by rw [hSZ.out]; omega
          have hSZi : max (sz : Int) ((o : Int) + (l : Int)) = (SZ : Int) := by rw [hSZ.out]; omega
          have hoS : o < SZ := by rw [hSZ.out]; omega
          have hlS : o + l ≤ SZ := by rw [hSZ.out]; omega
          have hszS : sz ≤ SZ := by rw [hSZ.out]; omega
          have hee : Hid ((s ++ [x.put o l dd], (⟨0, s.length, (x.put o l dd).size, 0, fun _ => 0⟩ : Sho)) = (s', xq)) := hee0.out
          have hmk := run_make_row' (P := Try.prog) 42 5 (.int .u8 0) 1 Try.underlying42 infoU8 rfl .i64 .i64 SZ (by omega) (by omega)
          obtain ⟨W3, hW3⟩ : ∃ W3, W3 = W2.alloc (.cells (madeCells #[.int .u8 0] SZ) 5) := ⟨_, rfl⟩
          have hn3w : New W2 W3 := by rw [hW3]; exact (New.refl W2).alloc _
          have hmade : Hid (W3.rowIs W2.heap.size 5 SZ (fun _ => .int .u8 0)) := by show World.rowIs _ _ _ _ _; rw [hW3]; exact World.rowIs_made W2 (.int .u8 0) SZ 5
          have hmin : Hid (min sz SZ = Nat.min sz SZ) := (rfl : _ = _)
          have hsrc : Hid (∀ j, j < sz → ∃ nb, nA = some ⟨nb, 0, none⟩ ∧ W3.cell? ⟨nb, j, none⟩ = some (.int .u8 (x.f j : Nat))) := fun j hj => by
            rcases hn3H.out with ⟨_, h0⟩ | ⟨nb, h0, hr⟩
            · omega
            · exact ⟨nb, h0, (hr.new hn3w).cell hj⟩
          have hpos : Hid (0 < min sz SZ → some (⟨W2.heap.size, 0, none⟩ : Addr) = some ⟨W2.heap.size, 0, none⟩ ∧ ∃ b o, nA = some ⟨b, o, none⟩ ∧ ∀ j, j < min sz SZ → W3.cell? ⟨b, o + j, none⟩ = some (.int .u8 (x.f j : Nat))) := fun h0 => by
            rcases hn3H.out with ⟨_, h1⟩ | ⟨nb, h1, hr⟩
            · omega
            · exact ⟨rfl, nb, 0, h1, fun j hj => by rw [Nat.zero_add]; exact (hr.new hn3w).cell (by omega)⟩
          have bJ3 := bJH.out.new hn3w
          have dd0 := bJ3.cell 0
          have dd2 := bJ3.cell 2
          have dd4 := bJ3.cell 4
          simp at dd0 dd2 dd4
          as_aux_lemma =>
            go_upto_region 21 with fail
            rw [← hW3]
            clear hW3 hmk
            go_upto_region 23 with (with_reducible refine wpList_copy_rowIs rfl (.tmp 78) (.tmp 79) 42 42 rfl 5 Try.underlying42 hszU.out W2.heap.size 0 SZ 5 _ hmade.out (some ⟨W2.heap.size, 0, none⟩) nA SZ SZ sz nc (min sz SZ) (fun j => .int .u8 (x.f j : Nat)) rfl rfl hmin.out hpos.out (by omega) (fun j _ => rfl) ?_; intro W3b hr4 hg4; have hN3b : New W2 W3b := hn3w.grown1 hg4 (Nat.le_refl _); have bJ3b := bJH.out.new hN3b; have ee0 := bJ3b.cell 0; simp at ee0)
            have hminl : Hid (l = Nat.min l (SZ - o)) := by show l = min l (SZ - o); omega
            have hrd3 := hrd.out.new hN3b
            have hposl : Hid (0 < l → some (⟨W2.heap.size, o, none⟩ : Addr) = some ⟨W2.heap.size, o, none⟩ ∧ ∃ b o', JA = some ⟨b, o', none⟩ ∧ ∀ j, j < l → W3b.drew.cell? ⟨b, o' + j, none⟩ = some (.int .u8 (dd j : Nat))) := fun h0 => by
              obtain ⟨b', o', e, _, hcc⟩ := hrd3.2 h0
              exact ⟨rfl, b', o', e, hcc⟩
            have ee2 := bJ3b.cell 2
            have ee4 := bJ3b.cell 4
            simp at ee2 ee4
            have hoSi : (o : Int) ≤ (SZ : Int) := by omega
            have hoSn : ¬ SZ = o := by omega
            have ho0 : (0 : Int) ≤ (o : Int) := by omega
            go_region_law (first
              | (refine step_copy_rowIs (by rfl) (.tmp 87) (.tmp 89) 42 42 (by rfl) 5 Try.underlying42 hszU.out W2.heap.size o SZ 5 _ hr4.out.drew (some ⟨W2.heap.size, o, none⟩) JA (SZ - o) (SZ - o) l jc l (fun j => .int .u8 (dd j : Nat)) (by rfl) (by rfl) hminl.out hposl.out (by omega) (fun j _ => rfl) ?_; intro W4 hr5 hg5))
            all_goals
              have hN24 : New W2 W4 := hN3b.drew.grown1 hg5 (Nat.le_refl _)
              have hD4 : DatT W4 (.slice (some ⟨W2.heap.size, 0, none⟩) SZ SZ) (x.put o l dd).size (x.put o l dd).f := by
                rw [hSZx.out]
                refine ⟨_, SZ, rfl, Nat.le_refl _, by unfold maxLen; omega, .inr ⟨_, rfl, RowK.of_rowIs hr5.out (Nat.le_refl _) fun j hj => ?_⟩⟩
                show cpF o l _ _ j = Value.int .u8 (putF o l dd x.f j : Nat)
                unfold cpF putF
                by_cases h1 : o ≤ j ∧ j < o + l
                · rw [if_pos h1, if_pos h1]
                · rw [if_neg h1, if_neg h1]
                  by_cases h2 : j < min sz SZ
                  · rw [if_pos ⟨Nat.zero_le _, by omega⟩, Nat.sub_zero]
                  · rw [if_neg (by omega), hxf.out.2 j (by rw [← hsz.out]; omega)]
                    rfl
              clear hr4 hg4 hr5 hg5
              have hn4 : Hid (New W2 W4) := hN24
              have hbx4 := hbx.out.new hn4.out
              have bx1 := hbx4.cell 1
              have bx2 := hbx4.cell 2
              have by1 := hbx4.frozen 1
              have by2 := hbx4.frozen 2
              simp at bx1 bx2
              have hbx5 : Hid (Blk ((W4.setCell ⟨xb, 1, none⟩ (.int .i64 (s.length : Nat))).setCell ⟨xb, 2, none⟩ (.int .i64 (SZ : Nat))) xb 46 #[.int .i64 0, .int .i64 (s.length : Nat), .int .i64 (SZ : Nat), .slice none 0 0]) := (hbx4.put 1 _).put 2 _
              have hA5 : Hid (Alt (fun k => k = xb) W4 ((W4.setCell ⟨xb, 1, none⟩ (.int .i64 (s.length : Nat))).setCell ⟨xb, 2, none⟩ (.int .i64 (SZ : Nat)))) := altAt (altAt (Alt.refl W4) 1 _) 2 _
              have hbx4H := Lib.hid hbx4
              clear hbx4
              go_upto_region 26 with fail
              obtain ⟨W5, hW5⟩ : ∃ W5, W5 = (W4.setCell ⟨xb, 1, none⟩ (.int .i64 (s.length : Nat))).setCell ⟨xb, 2, none⟩ (.int .i64 (SZ : Nat)) := ⟨_, rfl⟩
              rw [← hW5] at hbx5 hA5 ⊢
              clear hW5 bx1 bx2 by1 by2
              have hR5 := Lib.hid ((hR2.out.new hn4.out).alt hA5.out hbx4H.out hox.out)
              have hN5 := Lib.hid ((hN2.out.next hn4.out).trans (hA5.out.below (hN2.out.next hn4.out).size fun k hk => by omega))
              have hD5 : Hid (DatT W5 (.slice (some ⟨W2.heap.size, 0, none⟩) SZ SZ) (x.put o l dd).size (x.put o l dd).f) := by
                have h1 : DatT W4 (.slice (some ⟨W2.heap.size, 0, none⟩) SZ SZ) (x.put o l dd).size (x.put o l dd).f := hD4
                exact h1.alt hA5.out fun b cs hb e => blk_ne' hb hbx4H.out (by decide) e
              have hvo5 := hR5.out.vo
              have hWs := hN5.out.size
              go_wp2_with (at_builtin; refine wpList_append_own _ rfl _ _ 41 rfl w.heap.size 42 b0 _ 1 24 Try.underlying41 hb0 hy0 hy1 hy2 rfl (by decide) (.slice (some ⟨vg, 0, none⟩) s.length vc) s.length ((List.range s.length).map sv) rfl (hvo5.alloc _) ⟨W5.heap.size, 0, none⟩ 1 1 [.slice (some ⟨W2.heap.size, 0, none⟩) SZ SZ] rfl rfl (World.news_of_block (cs := #[.slice _ _ _]) (t := 42) (fr := (0, 0)) (heap_alloc_new W5 _)) (by simp [Value.oneCell']) (by unfold maxLen; omega) (by omega) (by simp; omega) ?_; intro v6 w6 hown6 hgr6 hnil6)
              have hfin : Hid (RCut w i s' xq Q xb u5 dv v6 w6) := RCut.push (x := x.put o l dd) (n := s.length) hR5.out (by rw [hSZx.out]; exact hbx5.out) hN5.out hlo hD5.out hown6 hgr6 hee.out
              clear hown6 hgr6 hnil6 hvo5
              go_meet
              exact hfin.out
        by_cases hk2 : k = 2
        · subst hk2
          have hkk : Hid (¬ ((2 : Int) < 1 ∨ 3 < (2 : Int))) := by show ¬ _; omega
          by_cases hv0 : v < 0
          · have hvH : Hid (v < 0 ∨ (s.length : Int) ≤ v) := .inl hv0
            as_aux_lemma =>
              go_wp2
              go_meet
              exact RCut.no hR2.out hbx.out hox.out hN2.out hlo 2 ((step_no (cd_ver hkk.out hvH.out)).symm.trans heH.out)
          by_cases hv5 : (s.length : Int) ≤ v
          · have hvH : Hid (v < 0 ∨ (s.length : Int) ≤ v) := .inr hv5
            as_aux_lemma =>
              go_wp2
              go_meet
              exact RCut.no hR2.out hbx.out hox.out hN2.out hlo 2 ((step_no (cd_ver hkk.out hvH.out)).symm.trans heH.out)
          have hvn : Hid (¬ (v < 0 ∨ (s.length : Int) ≤ v)) := by show ¬ _; omega
          obtain ⟨vi, rfl⟩ : ∃ vi : Nat, (vi : Int) = v := ⟨v.toNat, by omega⟩
          have hvi : vi < s.length := by omega
          have hvi0 : (0 : Int) ≤ (vi : Int) := by omega
          by_cases hcn : cc < 0
          · have hcH : Hid (cc < 0 ∨ 4096 < cc) := .inl hcn
            as_aux_lemma =>
              go_wp2
              go_meet
              exact RCut.no hR2.out hbx.out hox.out hN2.out hlo 2 ((step_no (cd_cnt hkk.out hvn.out rfl hcH.out)).symm.trans heH.out)
          by_cases hcm2 : 4096 < cc
          · have hcH : Hid (cc < 0 ∨ 4096 < cc) := .inr hcm2
            as_aux_lemma =>
              go_wp2
              go_meet
              exact RCut.no hR2.out hbx.out hox.out hN2.out hlo 2 ((step_no (cd_cnt hkk.out hvn.out rfl hcH.out)).symm.trans heH.out)
          have hcH : Hid (¬ (cc < 0 ∨ 4096 < cc)) := by show ¬ _; omega
          obtain ⟨q, rfl⟩ : ∃ q : Nat, (q : Int) = cc := ⟨cc.toNat, by omega⟩
          obtain ⟨x, hx⟩ : ∃ x, Hid (x = s.getD vi Ver.none) := ⟨_, rfl⟩
          have hxf : Hid x.fine := by rw [hx.out]; exact getD_fine hsl.out.2.2 vi
          obtain ⟨sz, hsz⟩ : ∃ sz, Hid (sz = x.size) := ⟨_, rfl⟩
          have hsz4 : sz ≤ 4096 := by rw [hsz.out]; exact hxf.out.1
          obtain ⟨vg, rfl, hvg1, hvg2⟩ := hv3H.out (by omega)
          have hnow := hR2.out.vt vi hvi
          rw [← hx.out, ← hsz.out] at hnow
          obtain ⟨nA, nc, hsv, hn1, hn2, hn3⟩ := hnow
          have vcell := hv4H.out vg rfl vi (sv vi) (by simp [hvi])
          rw [hsv] at vcell
          have hn3H := Lib.hid hn3
          have hsvH := Lib.hid hsv
          unfold maxLen at hn2
          clear hn3 hsv
          have hee : Hid ((s ++ [x.cut q], (⟨0, s.length, (x.cut q).size, 0, fun _ => 0⟩ : Sho)) = (s', xq)) := by
            show _ = _
            rw [← heH.out, step2T (codeT_ok hkk.out hvn.out (fun h => by cases h) (fun _ => hcH.out) (fun h => by cases h)), ← hx.out]
            rfl
          have hmk := run_make_row' (P := Try.prog) 42 5 (.int .u8 0) 1 Try.underlying42 infoU8 rfl .i64 .i64 q (by omega) (by omega)
          obtain ⟨W3, hW3⟩ : ∃ W3, W3 = W2.alloc (.cells (madeCells #[.int .u8 0] q) 5) := ⟨_, rfl⟩
          have hn3w : New W2 W3 := by rw [hW3]; exact (New.refl W2).alloc _
          have hmade : Hid (W3.rowIs W2.heap.size 5 q (fun _ => .int .u8 0)) := by show World.rowIs _ _ _ _ _; rw [hW3]; exact World.rowIs_made W2 (.int .u8 0) q 5
          have hmin : Hid (min sz q = Nat.min sz q) := (rfl : _ = _)
          have hsrc : Hid (∀ j, j < sz → ∃ nb, nA = some ⟨nb, 0, none⟩ ∧ W3.cell? ⟨nb, j, none⟩ = some (.int .u8 (x.f j : Nat))) := fun j hj => by
            rcases hn3H.out with ⟨_, h0⟩ | ⟨nb, h0, hr⟩
            · omega
            · exact ⟨nb, h0, (hr.new hn3w).cell hj⟩
          have hpos : Hid (0 < min sz q → some (⟨W2.heap.size, 0, none⟩ : Addr) = some ⟨W2.heap.size, 0, none⟩ ∧ ∃ b o, nA = some ⟨b, o, none⟩ ∧ ∀ j, j < min sz q → W3.cell? ⟨b, o + j, none⟩ = some (.int .u8 (x.f j : Nat))) := fun h0 => by
            rcases hn3H.out with ⟨_, h1⟩ | ⟨nb, h1, hr⟩
            · omega
            · exact ⟨rfl, nb, 0, h1, fun j hj => by rw [Nat.zero_add]; exact (hr.new hn3w).cell (by omega)⟩
          have bJ3 := bJH.out.new hn3w
          have dd0 := bJ3.cell 0
          have dd2 := bJ3.cell 2
          have dd4 := bJ3.cell 4
          simp at dd0 dd2 dd4
          as_aux_lemma =>
            go_upto_region 21 with fail
            rw [← hW3]
            clear hW3 hmk
            go_upto_region 24 with (with_reducible refine wpList_copy_rowIs rfl (.tmp 78) (.tmp 79) 42 42 rfl 5 Try.underlying42 hszU.out W2.heap.size 0 q 5 _ hmade.out (some ⟨W2.heap.size, 0, none⟩) nA q q sz nc (min sz q) (fun j => .int .u8 (x.f j : Nat)) rfl rfl hmin.out hpos.out (by omega) (fun j _ => rfl) ?_; intro W4 hr4 hg4; have hN24 : New W2 W4 := hn3w.grown1 hg4 (Nat.le_refl _); have bJ4 := bJH.out.new hN24; have ee0 := bJ4.cell 0; simp at ee0)
            have hD4 : DatT W4 (.slice (some ⟨W2.heap.size, 0, none⟩) q q) (x.cut q).size (x.cut q).f := by
              refine ⟨_, q, rfl, Nat.le_refl _, by unfold maxLen; omega, .inr ⟨_, rfl, RowK.of_rowIs hr4.out (Nat.le_refl _) fun j hj => ?_⟩⟩
              have hj : j < q := hj
              unfold cpF
              show _ = Value.int .u8 (cutF q x.f j : Nat)
              unfold cutF
              rw [if_pos hj]
              by_cases h1 : j < min sz q
              · rw [if_pos ⟨Nat.zero_le _, by omega⟩, Nat.sub_zero]
              · rw [if_neg (by omega), hxf.out.2 j (by rw [← hsz.out]; omega)]
                rfl
            clear hr4 hg4
            have hn4 : Hid (New W2 W4) := hN24
            have hbx4 := hbx.out.new hn4.out
            have bx1 := hbx4.cell 1
            have bx2 := hbx4.cell 2
            have by1 := hbx4.frozen 1
            have by2 := hbx4.frozen 2
            simp at bx1 bx2
            have hbx5 : Hid (Blk ((W4.setCell ⟨xb, 1, none⟩ (.int .i64 (s.length : Nat))).setCell ⟨xb, 2, none⟩ (.int .i64 (q : Nat))) xb 46 #[.int .i64 0, .int .i64 (s.length : Nat), .int .i64 (q : Nat), .slice none 0 0]) := (hbx4.put 1 _).put 2 _
            have hA5 : Hid (Alt (fun k => k = xb) W4 ((W4.setCell ⟨xb, 1, none⟩ (.int .i64 (s.length : Nat))).setCell ⟨xb, 2, none⟩ (.int .i64 (q : Nat)))) := altAt (altAt (Alt.refl W4) 1 _) 2 _
            have hbx4H := Lib.hid hbx4
            clear hbx4
            go_upto_region 26 with fail
            obtain ⟨W5, hW5⟩ : ∃ W5, W5 = (W4.setCell ⟨xb, 1, none⟩ (.int .i64 (s.length : Nat))).setCell ⟨xb, 2, none⟩ (.int .i64 (q : Nat)) := ⟨_, rfl⟩
            rw [← hW5] at hbx5 hA5 ⊢
            clear hW5 bx1 bx2 by1 by2
            have hR5 := Lib.hid ((hR2.out.new hn4.out).alt hA5.out hbx4H.out hox.out)
            have hN5 := Lib.hid ((hN2.out.next hn4.out).trans (hA5.out.below (hN2.out.next hn4.out).size fun k hk => by omega))
            have hD5 : Hid (DatT W5 (.slice (some ⟨W2.heap.size, 0, none⟩) q q) (x.cut q).size (x.cut q).f) := by
              have h1 : DatT W4 (.slice (some ⟨W2.heap.size, 0, none⟩) q q) (x.cut q).size (x.cut q).f := hD4
              exact h1.alt hA5.out fun b cs hb e => blk_ne' hb hbx4H.out (by decide) e
            have hvo5 := hR5.out.vo
            have hWs := hN5.out.size
            go_wp2_with (at_builtin; refine wpList_append_own _ rfl _ _ 41 rfl w.heap.size 42 b0 _ 1 24 Try.underlying41 hb0 hy0 hy1 hy2 rfl (by decide) (.slice (some ⟨vg, 0, none⟩) s.length vc) s.length ((List.range s.length).map sv) rfl (hvo5.alloc _) ⟨W5.heap.size, 0, none⟩ 1 1 [.slice (some ⟨W2.heap.size, 0, none⟩) q q] rfl rfl (World.news_of_block (cs := #[.slice _ _ _]) (t := 42) (fr := (0, 0)) (heap_alloc_new W5 _)) (by simp [Value.oneCell']) (by unfold maxLen; omega) (by omega) (by simp; omega) ?_; intro v6 w6 hown6 hgr6 hnil6)
            have hfin : Hid (RCut w i s' xq Q xb u5 dv v6 w6) := RCut.push (x := x.cut q) (n := s.length) hR5.out hbx5.out hN5.out hlo hD5.out hown6 hgr6 hee.out
            clear hown6 hgr6 hnil6 hvo5
            go_meet
            exact hfin.out
        by_cases hk3 : k = 3
        · subst hk3
          have hkk : Hid (¬ ((3 : Int) < 1 ∨ 3 < (3 : Int))) := by show ¬ _; omega
          by_cases hv0 : v < 0
          · have hvH : Hid (v < 0 ∨ (s.length : Int) ≤ v) := .inl hv0
            as_aux_lemma =>
              go_wp2
              go_meet
              exact RCut.no hR2.out hbx.out hox.out hN2.out hlo 2 ((step_no (cd_ver hkk.out hvH.out)).symm.trans heH.out)
          by_cases hv5 : (s.length : Int) ≤ v
          · have hvH : Hid (v < 0 ∨ (s.length : Int) ≤ v) := .inr hv5
            as_aux_lemma =>
              go_wp2
              go_meet
              exact RCut.no hR2.out hbx.out hox.out hN2.out hlo 2 ((step_no (cd_ver hkk.out hvH.out)).symm.trans heH.out)
          have hvn : Hid (¬ (v < 0 ∨ (s.length : Int) ≤ v)) := by show ¬ _; omega
          obtain ⟨vi, rfl⟩ : ∃ vi : Nat, (vi : Int) = v := ⟨v.toNat, by omega⟩
          have hvi : vi < s.length := by omega
          have hvi0 : (0 : Int) ≤ (vi : Int) := by omega
          by_cases hoff : oo < 0
          · have hcH : Hid (oo < 0 ∨ cc < 0) := .inl hoff
            as_aux_lemma =>
              go_wp2
              go_meet
              exact RCut.no hR2.out hbx.out hox.out hN2.out hlo 2 ((step_no (cd_read hkk.out hvn.out rfl hcH.out)).symm.trans heH.out)
          by_cases hcn : cc < 0
          · have hcH : Hid (oo < 0 ∨ cc < 0) := .inr hcn
            as_aux_lemma =>
              go_wp2
              go_meet
              exact RCut.no hR2.out hbx.out hox.out hN2.out hlo 2 ((step_no (cd_read hkk.out hvn.out rfl hcH.out)).symm.trans heH.out)
          have hcH : Hid (¬ (oo < 0 ∨ cc < 0)) := by show ¬ _; omega
          obtain ⟨o, rfl⟩ : ∃ o : Nat, (o : Int) = oo := ⟨oo.toNat, by omega⟩
          obtain ⟨q, rfl⟩ : ∃ q : Nat, (q : Int) = cc := ⟨cc.toNat, by omega⟩
          obtain ⟨x, hx⟩ : ∃ x, Hid (x = s.getD vi Ver.none) := ⟨_, rfl⟩
          have hxf : Hid x.fine := by rw [hx.out]; exact getD_fine hsl.out.2.2 vi
          obtain ⟨sz, hsz⟩ : ∃ sz, Hid (sz = x.size) := ⟨_, rfl⟩
          have hsz4 : sz ≤ 4096 := by rw [hsz.out]; exact hxf.out.1
          obtain ⟨vg, rfl, hvg1, hvg2⟩ := hv3H.out (by omega)
          have hnow := hR2.out.vt vi hvi
          rw [← hx.out, ← hsz.out] at hnow
          obtain ⟨nA, nc, hsv, hn1, hn2, hn3⟩ := hnow
          have vcell := hv4H.out vg rfl vi (sv vi) (by simp [hvi])
          rw [hsv] at vcell
          have hn3H := Lib.hid hn3
          have hsvH := Lib.hid hsv
          unfold maxLen at hn2
          clear hn3 hsv
          have hee : Hid ((s, x.show o q) = (s', xq)) := by
            show _ = _
            rw [← heH.out, step3T (codeT_ok hkk.out hvn.out (fun h => by cases h) (fun h => by cases h) (fun _ => hcH.out)), ← hx.out]
            rfl
          have x2 := hbx.out.cell 2
          have y2 := hbx.out.frozen 2
          simp at x2
          have hA0 : Hid (Alt (fun k => k = xb) W2 (W2.setCell ⟨xb, 2, none⟩ (.int .i64 (sz : Nat)))) := altAt (Alt.refl W2) 2 _
          have hb2 : Hid (Blk (W2.setCell ⟨xb, 2, none⟩ (.int .i64 (sz : Nat))) xb 46 #[.int .i64 0, .int .i64 0, .int .i64 (sz : Nat), .slice none 0 0]) := hbx.out.put 2 _
          have hstep : Hid (∀ wq, Alt (fun k => k = xb) W2 wq → wq.cell? ⟨jb, 2, none⟩ = some (.int .i64 (o : Nat)) ∧ wq.cell? ⟨jb, 3, none⟩ = some (.int .i64 (q : Nat))) := fun wq ha => ⟨ha.cell d2 hjx, ha.cell d3 hjx⟩
          as_aux_lemma =>
            go_wp2_with fail
            go_loopw [10] (fun xx wq => ∃ (t : Nat) (dvt : Value), xx = .int .i64 t ∧ t ≤ sz ∧ Hid (Alt (fun k => k = xb) W2 wq) ∧ Hid (Blk wq xb 46 #[.int .i64 0, .int .i64 0, .int .i64 (sz : Nat), dvt]) ∧ Hid (wq.ownsRow W2.heap.size 5 1 dvt (min t (o + q) - o) (numL .u8 (fun j => x.f (o + j)) (min t (o + q) - o)))) (fun xx _ => sz - (intOf xx).toNat)
            case atStart => exact ⟨0, _, rfl, by omega, hA0, hb2, by rw [show min 0 (o + q) - o = 0 by omega]; exact World.ownsRow_nil _ _ _ _⟩
            case round =>
              obtain ⟨t, dvt, rfl, ht, hA, hbq, hown⟩ := hrel
              obtain ⟨d2', d3'⟩ := hstep.out _ hA.out
              by_cases htl : t < sz
              · have hti : (t : Int) < (sz : Int) := by omega
                have ht0 : (0 : Int) ≤ (t : Int) := by omega
                by_cases hin : o ≤ t ∧ t < o + q
                · have h1 : (o : Int) ≤ (t : Int) := by omega
                  obtain ⟨dif, hdif⟩ : ∃ dif : Nat, (t : Int) - (o : Int) = (dif : Int) := ⟨t - o, by omega⟩
                  have h2 : (dif : Int) < (q : Int) := by omega
                  obtain ⟨nb, hnA, hnr⟩ : ∃ nb, nA = some ⟨nb, 0, none⟩ ∧ RowK 5 .u8 W2 nb sz x.f := by
                    rcases hn3H.out with ⟨_, h0⟩ | h0
                    · omega
                    · exact h0
                  subst hnA
                  have hnx : nb ≠ xb := by
                    obtain ⟨cs, hcs, _⟩ := hnr
                    exact blk_ne' (t := 5) hcs hbx.out (by decide)
                  have nt := hA.out.cell (hnr.cell htl) hnx
                  obtain ⟨ft, hft⟩ : ∃ ft, Hid (ft = x.f t) := ⟨_, rfl⟩
                  rw [← hft.out] at nt
                  have hq1 : min t (o + q) - o = t - o := by omega
                  have hq2 : min (t + 1) (o + q) - o = t - o + 1 := by omega
                  rw [hq1] at hown
                  obtain ⟨qn, hqn⟩ : ∃ qn, Hid (qn = t - o) := ⟨_, rfl⟩
                  rw [← hqn.out] at hown
                  have hqn4 : qn ≤ 4096 := by have := hqn.out; omega
                  have hownq := hown.out
                  have q3 := hbq.out.cell 3
                  have z3 := hbq.out.frozen 3
                  have hxw := hbq.out.lt
                  have nta := (((New.refl wr).alloc (.cells #[.int .u8 (ft : Nat)] 5)).cell (lt_of_cell nt)).trans nt
                  have q3a := (hbq.out.alloc (.cells #[.int .u8 (ft : Nat)] 5)).cell 3
                  have z3a := (hbq.out.alloc (.cells #[.int .u8 (ft : Nat)] 5)).frozen 3
                  simp at q3 q3a
                  have hsq := hA.out.size
                  obtain ⟨P2, hP2⟩ : ∃ P2, P2 = numL .u8 (fun j => x.f (o + j)) qn := ⟨_, rfl⟩
                  rw [← hP2] at hownq
                  have hP2H := Lib.hid hP2
                  clear hP2
                  go_wp2_with fail
                  go_region_law
                    (first
                      | (refine step_append_lies _ (by rfl) _ _ 42 (by rfl) W2.heap.size 5 u0 _ 1 1 Try.underlying42 hu0 hx0 hx1 hx2 rfl (by decide) dvt qn P2 (by rfl) (hownq.alloc _) ⟨wr.heap.size, 0, none⟩ 1 1 [.int .u8 (ft : Nat)] (by rfl) (by rfl) (World.news_of_block (cs := #[.int .u8 _]) (t := 5) (fr := (0, 0)) (heap_alloc_new wr _)) (by simp [Value.oneCell']) (by omega) (by unfold maxLen; omega) (by omega) (by simp; omega) (wr.heap.size + 1) (by simp) ?_; intro g7 c7 w7 hown7 hgr7 hat7 hlt7
                         have hbq7 := (hbq.out.alloc (.cells #[.int .u8 (ft : Nat)] 5)).drew
                         have hb7 := hbq7.grown hgr7 (own_ne_blk (hownq.alloc (.cells #[.int .u8 (ft : Nat)] 5)).drew hbq7 (by decide))
                         have f7 := hb7.cell 3
                         have f8 := hb7.frozen 3
                         simp at f7))
                  all_goals
                    have hfin : Hid (Alt (fun k => k = xb) W2 (w7.setCell ⟨xb, 3, none⟩ (.slice (some ⟨g7, 0, none⟩) (qn + 1) c7)) ∧ Blk (w7.setCell ⟨xb, 3, none⟩ (.slice (some ⟨g7, 0, none⟩) (qn + 1) c7)) xb 46 #[.int .i64 0, .int .i64 0, .int .i64 (sz : Nat), .slice (some ⟨g7, 0, none⟩) (qn + 1) c7] ∧
                        (w7.setCell ⟨xb, 3, none⟩ (.slice (some ⟨g7, 0, none⟩) (qn + 1) c7)).ownsRow W2.heap.size 5 1 (.slice (some ⟨g7, 0, none⟩) (qn + 1) c7) (min (t + 1) (o + q) - o) (numL .u8 (fun j => x.f (o + j)) (min (t + 1) (o + q) - o))) := by
                      refine ⟨altAt ((hA.out.alloc _).drew.grown hgr7 fun r e => .inr (hown.out.lt r e).1) _ _, hb7.put 3 _, ?_⟩
                      have h9 : numL .u8 (fun j => x.f (o + j)) (qn + 1) = P2 ++ [.int .u8 (ft : Nat)] := by
                        rw [numL_more, ← hP2H.out, hft.out]
                        rw [show o + qn = t by have := hqn.out; omega]
                      rw [hq2, ← hqn.out, h9]
                      exact hown7.kept (grown_set w7 xb 3 _) (.inr fun e => own_ne_blk hown7 hb7 (by decide) e)
                    clear hown7 hgr7 hat7 hlt7 hb7 hbq7 f7 f8 q3 q3a z3 z3a nt nta
                    go_wp2
                    go_roundw
                    case rel => exact ⟨t + 1, _, by go_num, by omega, hfin.out.1, hfin.out.2.1, hfin.out.2.2⟩
                    case measure => simp [intOf]; omega
                · have hq2 : min (t + 1) (o + q) - o = min t (o + q) - o := by omega
                  have hfin := hown
                  rw [← hq2] at hfin
                  by_cases h3 : t < o
                  · have h1 : ¬ (o : Int) ≤ (t : Int) := by omega
                    clear hin h3 hq2
                    go_wp2
                    go_roundw
                    case rel => exact ⟨t + 1, _, by go_num, by omega, hA, hbq, hfin⟩
                    case measure => simp [intOf]; omega
                  · have h1 : (o : Int) ≤ (t : Int) := by omega
                    have h2 : ¬ (t : Int) - (o : Int) < (q : Int) := by omega
                    clear hin h3 hq2
                    go_wp2
                    go_roundw
                    case rel => exact ⟨t + 1, _, by go_num, by omega, hA, hbq, hfin⟩
                    case measure => simp [intOf]; omega
              · have hte : t = sz := by omega
                subst hte
                have hfin : Hid (RCut w i s' xq Q xb u5 dv (.slice (some ⟨vg, 0, none⟩) s.length vc) wr) := RCut.show (hR2.out.alt hA.out hbx.out hox.out) (by rw [← hsz.out]; exact hbq.out) (DatT.of_own hown.out) (by rw [← hsz.out]; split <;> omega) (hN2.out.trans (hA.out.below hN2.out.size fun k hk => by omega)) hee.out
                clear hA hbq hown
                go_wp2
                go_meet
                exact hfin.out
        have hkk : Hid (k < 1 ∨ 3 < k) := by show _ ∨ _; omega
        replace hk1 : (k == 1) = false := by simp; omega
        replace hk2 : (k == 2) = false := by simp; omega
        replace hk3 : (k == 3) = false := by simp; omega
        have hk1' : (k != 1) = true := by simpa using hk1
        have hk2' : (k != 2) = true := by simpa using hk2
        have hk3' : (k != 3) = true := by simpa using hk3
        as_aux_lemma =>
          go_wp2
          go_meet
          exact RCut.no hR2.out hbx.out hox.out hN2.out hlo 3 ((step_no (cd_kind hkk.out)).symm.trans heH.out)
      obtain ⟨sv', dx, hR6, hb6, hd6, hN6⟩ := hcut
      obtain ⟨dA, dc, hdx, hdr⟩ := hd6
      subst hdx
      have hd6 : Hid (DatT wc (.slice dA xq.len dc) xq.len xq.d) := ⟨dA, dc, rfl, hdr⟩
      clear hdr
      have hnx := Lib.hid (shoL_more Q dv i (.slice dA xq.len dc))
      rw [← hxq.out] at hnx
      obtain ⟨q0, hq0⟩ : ∃ q0, Hid (q0 = xq.code) := ⟨_, rfl⟩
      obtain ⟨q1, hq1⟩ : ∃ q1, Hid (q1 = xq.ver) := ⟨_, rfl⟩
      obtain ⟨q2, hq2⟩ : ∃ q2, Hid (q2 = xq.size) := ⟨_, rfl⟩
      obtain ⟨ql, hql⟩ : ∃ ql, Hid (ql = xq.len) := ⟨_, rfl⟩
      rw [← hq0.out, ← hq1.out, ← hq2.out] at hnx hb6
      rw [← hql.out] at hnx hb6 hd6
      have c0 := hb6.cell 0
      have c1 := hb6.cell 1
      have c2 := hb6.cell 2
      have c3 := hb6.cell 3
      simp at c0 c1 c2 c3
      have hR6 := Lib.hid hR6
      have hN6 := Lib.hid hN6
      have hoo6 := hR6.out.oo
      have hz6 := hN6.out.size
      clear hb6
      go_wp2_with (at_builtin; refine wpList_append_own _ rfl _ _ 23 rfl w.heap.size 46 i0 _ 4 48 Try.underlying23 hi0 hz0 hz1 hz2 rfl (by decide) u5 i (shoL Q dv i) rfl (hoo6.alloc _) ⟨wc.heap.size, 0, none⟩ 1 1 [.int .i64 q0, .int .i64 (q1 : Nat), .int .i64 (q2 : Nat), .slice dA ql dc] rfl rfl (World.news_of_block (cs := #[.int .i64 _, .int .i64 _, .int .i64 _, .slice _ _ _]) (t := 46) (fr := (0, 0)) (heap_alloc_new wc _)) (by simp [Value.oneCell']) (by unfold maxLen; omega) (by omega) (by simp; omega) ?_; intro v7 w7 hown7 hgr7 hnil7)
      have hfin : Hid (Rf w.heap.size (i + 1) s' Q u4 sv' v7 (fun j => if j = i then .slice dA ql dc else dv j) w7 ∧ New w w7) := by
        have ha : New wc (wc.alloc (.cells #[.int .i64 q0, .int .i64 (q1 : Nat), .int .i64 (q2 : Nat), .slice dA ql dc] 46)) := (New.refl wc).alloc _
        have h1 := hR6.out.new ha
        have hu4 : ∀ b cs, Blk (wc.alloc (.cells #[.int .i64 q0, .int .i64 (q1 : Nat), .int .i64 (q2 : Nat), .slice dA ql dc] 46)) b 5 cs → u5.ownBlock ≠ some b := fun b cs hb => own_ne_blk h1.oo hb (by decide)
        refine ⟨⟨?_, fun j hj => (h1.vt j hj).grown hgr7 hu4, by rw [hnx.out]; exact hown7, fun j hj => ?_⟩, (hN6.out.next ha).grown hgr7 fun r e => (h1.oo.lt r e).1⟩
        · refine h1.vo.kept hgr7 ?_
          rcases h1.vo.2 with ⟨he, _⟩ | ⟨g, cap, cur, he, _, hg0, _⟩
          · exact .inl (by rw [he]; rfl)
          · rw [he]
            exact .inr (fun hh => own_ne_blk h1.oo (t := 42) hg0 (by decide) hh.symm)
        · by_cases e : j = i
          · subst e
            simp only [if_true]
            rw [← hxq.out, ← hql.out]
            exact (hd6.out.new ha).grown hgr7 hu4
          · simp only [if_neg e]
            exact (h1.od j (by omega)).grown hgr7 hu4
      clear hown7 hgr7 hnil7 hoo6
      rw [hs'.out] at hfin
      go_wp2
      go_roundw
      case rel => exact ⟨i + 1, sv', _, by go_num, by omega, hfin.out.1, hfin.out.2⟩
      case measure => simp [intOf]; omega
    · have him : m = i := by omega
      subst him
      have hf := Lib.hid (And.intro hR.out.oo (And.intro hR.out.od hN.out))
      clear hR hN
      go_wp2
      exact bodyPost_ret (v := .tuple #[u5, .int .i64 0]) (by simp [results, Try.results6, go_sem]) rfl ⟨⟨u5, dv, rfl, hf.out.1, hf.out.2.1⟩, hf.out.2.2⟩
end Go.Proofs.Ytiffgeglbafenaa.tree
