/-
  Contract of the reference's solved, five rows or more.
-/
import Derived.Test.YtjmjnodaohbpfaaMatSmall
import Derived.Test.YtjmjnodaohbpfaaMatGrow
import Derived.Deep.AppendLies
import Derived.BigRegion
namespace Go.Proofs.Ytjmjnodaohbpfaa.mat
open Go.ChangeShapes Go.WideShapes Go.ChangeAt Go.RowKit Go.Proofs.Ytjmjnodaohbpfaa.kit Go.Proofs.Ytjmjnodaohbpfaa.gf Go.Proofs.Ytjmjnodaohbpfaa.fld Go.Deep
set_option linter.unusedVariables false

theorem swp_comm (Z : Nat → Nat → Nat) (a b : Nat) : swp Z a b = swp Z b a := by
  funext i
  unfold swp
  by_cases h1 : i = a <;> by_cases h2 : i = b
  · rw [if_pos h1, if_pos h2, ← h1, h2]
  · rw [if_pos h1, if_neg h2, if_pos h1]
  · rw [if_neg h1, if_pos h2, if_pos h2]
  · rw [if_neg h1, if_neg h2, if_neg h2, if_neg h1]
/-- the list that is filled from behind -/
def bkF (x : Nat → Nat) (t : Nat) : Nat → Value := fun j => .int .i64 ((if t ≤ j then x j else 0 : Nat) : Int)
theorem bkF_set (x : Nat → Nat) (i : Nat) : (fun j => if j = i then Value.int .i64 ((x i : Nat) : Int) else bkF x (i + 1) j) = bkF x i := by
  funext j
  unfold bkF
  by_cases h : j = i
  · rw [if_pos h, if_pos (by omega), h]
  · rw [if_neg h]
    by_cases h2 : i + 1 ≤ j
    · rw [if_pos h2, if_pos (by omega)]
    · rw [if_neg h2, if_neg (by omega)]
theorem grown_cell {w w' : World} {row : Option Nat} (hg : w.grownBy w' row) {p : Addr} (h : p.block < w.heap.size) (hne : some p.block ≠ row) : w'.cell? p = w.cell? p ∧ w'.frozen? p = w.frozen? p := by
  have := hg.block p.block h hne
  unfold World.cell? World.frozen?
  rw [this]
  exact ⟨rfl, rfl⟩
set_option maxRecDepth 100000 in
set_option maxHeartbeats 4000000 in
theorem solved_big (A V : Option Addr) (n ca cv kk : Nat) (R : Nat → Option Addr) (L C : Nat → Nat) (M : Nat → Nat → Int) (w : World) (h : RdM .i64 w A n R L C M) (hm : mayM n L M = true) (hL : L 0 = n)
    (hr : (stR (fun i k => elN M i k) n n).2 = n) (hV : RdI .i64 w V n (fun i => (unN kk i : Nat))) (hk : kk < n) (h4 : ¬ n ≤ 4) :
    Calls Try.prog 31 #[.slice A n ca, .slice V n cv] w (SolP n (fun i => invN (fun i k => elN M i k) n i kk) w) := by
  obtain ⟨hn1, hn8, _⟩ := mayM_out hm
  have hb : Hid (bytesP (fun i k => elN M i k) n n) := elN_bytes hm hL
  have hown := Lib.hid (fun w1 (hn : New w w1) => ownMatrix_cap A n ca n R L C M w1 (h.new hn) hm hL)
  obtain ⟨Z, hZ⟩ : ∃ Z : Nat → Nat → Nat, Z = fun i k => elN M i k := ⟨_, rfl⟩
  rw [← hZ] at hr hb hown ⊢
  have hr0 := Lib.hid hr
  obtain ⟨bv, ov, rfl, hbv, hcv⟩ := hV.2 (by omega)
  have hcv0 := Lib.hid hcv
  obtain ⟨x, hx⟩ : ∃ x : Nat → Nat, Hid (x = fun i => invN Z n i kk) := ⟨_, rfl⟩
  rw [← hx.out]
  have hmk := run_make_row' (P := Try.prog) 29 3 (.int .i64 0) 8 Try.underlying29 infoInt rfl .i64 .i64 n (by omega) (by omega)
  obtain ⟨i0, hi0, hz0, hz1, hz2⟩ := info_parts infoInt
  have h4i : ¬ (n : Int) ≤ 4 := by omega
  have hK0 : Hid (∀ i, i < n → colN Z n kk i n = unN kk i) := fun i _ => if_neg (by omega)
  have hK1 : Hid (∀ i j, j < n → colN Z n kk i j = Z i j) := fun i j hj => if_pos hj
  clear h hm hL hr hZ hV hcv
  go_enter Try.func31, Try.ntmps31
  go_wp2_with fail
  refine (hown.out w (New.refl w)).mono ?_
  rintro e W ⟨o, cap, G0, C0, rfl, hcap, hmx, hnW, hcp⟩
  obtain ⟨B, hB⟩ : ∃ B, Hid (B = w.heap.size) := ⟨_, rfl⟩
  have hbl : Below B W W := Below.refl _ _
  have hax : Hid (Ax W B o n 0 G0 C0 (colN Z n kk) W) := by
    rw [hB.out]
    have hmx2 : Mx W w.heap.size W.heap.size o n n G0 C0 (colN Z n kk) := hmx.congr fun i j hi hj => by rw [hK1.out i j hj]
    exact Ax.start hmx2 hcp (Below.refl _ _)
  have hnW0 := Lib.hid hnW
  have hbB : bv < B := by rw [hB.out]; exact hbv
  clear hmx hnW hcp hown hbl
  go_wp2_with fail
  go_loopw [66] (fun x0 wr => ∃ (t : Nat) (G C : Nat → Nat), x0 = .int .i64 t ∧ t ≤ n ∧ Hid (Ax W B o n t G C (colN Z n kk) wr)) (fun x0 _ => n - (intOf x0).toNat)
  case atStart => exact ⟨0, G0, C0, rfl, Nat.zero_le _, hax.out⟩
  case round =>
    clear hax
    obtain ⟨t, G, C, rfl, ht, hs⟩ := hrel
    by_cases hlt : t < n
    · have hti : (t : Int) < (n : Int) := by omega
      have a0 : (0 : Int) ≤ (t : Int) := by omega
      have c0 := hs.out.cellO hlt
      rw [show lenA n t t = n from if_neg (by omega)] at c0
      have f0 := hs.out.frozenO t
      have cv := (hs.out.bl.cell (p := ⟨bv, ov + t, none⟩) hbB).trans ((hnW0.out.cell hbv).trans (hcv0.out t hlt))
      obtain ⟨u, hu⟩ : ∃ u, Hid (u = unN kk t) := ⟨_, rfl⟩
      rw [← hu.out] at cv
      have hown := hs.out.own hlt
      have hob := hs.out.ob
      have hgo := hs.out.ne t hlt
      have hBs : B ≤ wr.heap.size := by omega
      have hA := Lib.hid (hs.out.new (((New.refl wr).alloc (.cells #[.int .i64 ((u : Nat) : Int)] 3)).drew))
      have hcA := (hA.out.cellO hlt)
      rw [show lenA n t t = n from if_neg (by omega)] at hcA
      have hfA := hA.out.frozenO t
      have hcA := Lib.hid hcA
      have hfA := Lib.hid hfA
      go_wp2_with fail
      go_region_law (refine step_append_lies _ (by rfl) _ _ 29 (by rfl) B 3 i0 _ 1 8 Try.underlying29 hi0 hz0 hz1 hz2 rfl (by decide) (Value.slice (some ⟨G t, 0, none⟩) n (C t)) n (rowL (colN Z n kk t) n) (by rfl) ((hown.alloc _).drew) ⟨wr.heap.size, 0, none⟩ 1 1 [.int .i64 (u : Nat)] (by rfl) (by rfl) (World.news_of_block (cs := #[.int .i64 (u : Nat)]) (t := 3) (fr := (0, 0)) (heap_alloc_new wr _)) (by simp [Value.oneCell']) (by omega) (by unfold maxLen; omega) (by omega) (by simp; omega) (wr.heap.size + 1) (by simp) ?_; intro gg cap1 w7 hown7 hgrow7 hat7 hlt7; have g7 := grown_cell (p := ⟨o, t, none⟩) hgrow7 hA.out.ob.2 (fun e => hgo (by injection e with e; exact e.symm)); have c7 := g7.1.trans hcA.out; have f7 := g7.2.trans hfA.out)
      all_goals
        have hs2 : Hid (Ax W B o n (t + 1) (fun i => if i = t then gg else G i) (fun i => if i = t then cap1 else C i) (colN Z n kk) (w7.setCell ⟨o, t, none⟩ (.slice (some ⟨gg, 0, none⟩) (n + 1) cap1))) := by
          rw [hu.out, ← hK0.out t hlt, rowL_app] at hown7
          exact hs.out.step hlt (((New.refl wr).alloc (.cells #[.int .i64 ((u : Nat) : Int)] 3)).drew) hown7 hgrow7 (by
            rcases hat7 with h | h
            · left; simp [Value.ownBlock] at h; omega
            · right; rw [h]; simp [World.drew])
      all_goals clear hown7 hgrow7 hat7 g7 c7 f7 hA hcA hfA hown c0 f0 cv hs
      all_goals go_wp2
      all_goals go_roundw
      all_goals first | exact ⟨t + 1, _, _, by go_num, by omega, hs2.out⟩ | (simp [intOf]; omega)
    · have htn : t = n := by omega
      have hst0 := Lib.hid (show SSt W B wr.heap.size o n (n + 1) G C (colN Z n kk) wr by rw [htn] at hs; exact hs.out.mx)
      obtain ⟨H, hH⟩ : ∃ H, Hid (H = wr.heap.size) := ⟨_, rfl⟩
      rw [← hH.out] at hst0
      have hti : ¬ (t : Int) < (n : Int) := by omega
      clear hs htn hlt
      go_wp2_with fail
      go_loopw [13] (fun x0 wr => ∃ (c : Nat) (G C : Nat → Nat), x0 = .int .i64 c ∧ c ≤ n ∧ Hid (SSt W B H o n (n + 1) G C (gaN Z n kk c) wr)) (fun x0 _ => n - (intOf x0).toNat)
      case atStart => exact ⟨0, G, C, rfl, Nat.zero_le _, hst0.out⟩
      case round =>
        clear hst0
        obtain ⟨c, G, C, rfl, hc, hs⟩ := hrel
        by_cases hlt : c < n
        · have hci : (c : Int) < (n : Int) := by omega
          have hby : Hid (bytesP (gaN Z n kk c) n (n + 1)) := gaN_bytes hb.out c
          obtain ⟨p, hpv, hcp, hpn, hp0, hnext⟩ := gaN_pv (k := kk) hb.out hr0.out hlt
          have hzer := Lib.hid (pv_before hpv)
          have hnext0 := Lib.hid hnext
          have hp00 := Lib.hid hp0
          have hleft : Hid (∀ i j, i < n → j < c → eliR (swp (gaN Z n kk c) c p) c c i j = swp (gaN Z n kk c) c p i j) := fun i j hi hj => gaN_next hb.out hr0.out hlt hcp hpn hi hj
          obtain ⟨Y, hY⟩ : ∃ Y, Y = gaN Z n kk c := ⟨_, rfl⟩
          rw [← hY] at hs hby hzer hp00 hnext0 hleft
          clear hpv hp0 hnext hY
          have c0i : (0 : Int) ≤ (c : Int) := by omega
          go_wp2_with fail
          go_loopw [14] (fun x0 wr => ∃ i : Nat, x0 = .int .i64 i ∧ c ≤ i ∧ i ≤ p ∧ Hid (SSt W B H o n (n + 1) G C Y wr)) (fun x0 _ => p - (intOf x0).toNat)
          case atStart => exact ⟨c, rfl, Nat.le_refl _, hcp, hs.out⟩
          case round =>
            clear hs
            obtain ⟨i, rfl, hi1, hi2, hs⟩ := hrel
            have hin : i < n := by omega
            have hii : (i : Int) < (n : Int) := by omega
            have hio := hs.out.mx.cellO hin
            have hv := hs.out.mx.cell hin (show c < n + 1 by omega)
            have hcw : c < n + 1 := by omega
            have hci2 : (c : Int) < (n : Int) + 1 := by omega
            by_cases hip : i < p
            · rw [hzer.out i hi1 hip] at hv
              go_wp2
              go_roundw
              case rel => exact ⟨i + 1, by go_num, by omega, by omega, hs.out⟩
              case measure => simp [intOf]; omega
            · have hie : i = p := by omega
              subst hie
              clear hip
              have hz0 := hp00.out
              have hzb : (((Y i c : Nat) : Int) == 0) = false := by simpa using hz0
              have hzi : ((Y i c : Nat) : Int) ≠ 0 := by omega
              obtain ⟨zz, hzz⟩ : ∃ zz, Hid (zz = Y i c) := ⟨_, rfl⟩
              rw [← hzz.out] at hv hzi hzb
              clear hz0
              have hto := hs.out.mx.cellO hlt
              have hfo := hs.out.mx.frozenO c
              have hfo2 := hs.out.mx.frozenO i
              obtain ⟨X, hX⟩ : ∃ X, (wr.setCell ⟨o, i, none⟩ (.slice (some ⟨G c, 0, none⟩) (n + 1) (C c))).cell? ⟨o, c, none⟩ = some X := hs.out.mx.set_some hlt i _
              have hXf : (wr.setCell ⟨o, i, none⟩ (.slice (some ⟨G c, 0, none⟩) (n + 1) (C c))).frozen? ⟨o, c, none⟩ = false := hs.out.mx.set_frozen i _ c
              have hsw := Lib.hid (hs.out.swap hin hlt).drew
              have a1 : (0 : Int) ≤ (i : Int) := by omega
              go_wp2_with fail
              go_region
              have hz1 : swp Y c i c c ≠ 0 := by unfold swp; rw [if_pos rfl]; exact hp00.out
              have hb1 := Lib.hid (swp_bytes hby.out hlt hin)
              clear hX hXf hio hv hto hfo hfo2 hzi hzb hzz hs hp00 hzer hby
              obtain ⟨W1, hW1⟩ : ∃ W1, W1 = ((wr.setCell ⟨o, i, none⟩ (.slice (some ⟨G c, 0, none⟩) (n + 1) (C c))).setCell ⟨o, c, none⟩ (.slice (some ⟨G i, 0, none⟩) (n + 1) (C i))).drew := ⟨_, rfl⟩
              rw [← hW1] at hsw ⊢
              rw [swp_comm Y i c] at hsw
              obtain ⟨Z1, hZ1⟩ : ∃ Z1, Z1 = swp Y c i := ⟨_, rfl⟩
              obtain ⟨G1, hG1⟩ : ∃ G1, G1 = swpN G i c := ⟨_, rfl⟩
              obtain ⟨C2, hC2⟩ : ∃ C2, C2 = swpN C i c := ⟨_, rfl⟩
              rw [← hZ1] at hsw hb1 hz1 hnext0 hleft
              rw [← hG1, ← hC2] at hsw
              obtain ⟨q, hq⟩ : ∃ q, Hid (q = Z1 c c) := ⟨_, rfl⟩
              rw [← hq.out] at hz1
              have hql : q < 256 := by rw [hq.out]; exact hb1.out c c hlt (by omega)
              clear hW1 hZ1 hG1 hC2 X
              go_wp2_with fail
              go_loopw [15] (fun x0 wr => ∃ j : Nat, x0 = .int .i64 j ∧ c < j ∧ j ≤ n ∧ Hid (SSt W B H o n (n + 1) G1 C2 (fun i' k' => if i' < j then eliR Z1 c c i' k' else Z1 i' k') wr)) (fun x0 _ => n - (intOf x0).toNat)
              case atStart => exact ⟨c + 1, by go_num, by omega, by omega, hsw.out.congr fun i' k' _ _ => by
                by_cases h1 : i' < c + 1
                · rw [if_pos h1]
                  unfold eliR
                  rw [if_neg (by omega)]
                · rw [if_neg h1]⟩
              case round =>
                clear hsw
                obtain ⟨j, rfl, htj, hjn, hs⟩ := hrel
                by_cases hlj : j < n
                · have hji : (j : Int) < (n : Int) := by omega
                  have hjo := hs.out.mx.cellO hlj
                  have hto := hs.out.mx.cellO hlt
                  have hy := hs.out.mx.cell hlj hcw
                  rw [if_neg (by omega)] at hy
                  have hqc := hs.out.mx.cell hlt hcw
                  rw [if_pos (by omega), show eliR Z1 c c c c = Z1 c c from if_neg (by omega), ← hq.out] at hqc
                  obtain ⟨y, hye⟩ : ∃ y, Hid (y = Z1 j c) := ⟨_, rfl⟩
                  rw [← hye.out] at hy
                  have hyl : y < 256 := by rw [hye.out]; exact hb1.out j c hlj hcw
                  obtain ⟨f, hf⟩ : ∃ f, Hid (f = divN y q) := ⟨_, rfl⟩
                  have hfl : f < 256 := by rw [hf.out]; exact divN_lt _ _
                  have hdv : Hid (∀ w, Calls Try.prog 52 #[.int .i64 y, .int .i64 q] w fun e w' => e = .returned (.int .i64 f) ∧ New w w') := fun w => (divOf_any y q hyl hql hz1 w).mono fun e w' h => ⟨by rw [hf.out]; exact h.1, by rw [← h.2]; exact New.refl w⟩
                  have q0 := NewW.keep hjo
                  have q1 := NewW.keep hto
                  have q2 := NewW.keep hy
                  have q3 := NewW.keep hqc
                  have a3 : (0 : Int) ≤ (j : Int) := by omega
                  go_wp2
                  (refine wp_region_quiet_new (by kernel_rfl) (by kernel_rfl) ?_; (repeat (first | go_big_quiet_step (first | (go_at_call 52; exact NewW.call _ (hdv.out _))) | quiet_step (first | (go_at_call 52; exact NewW.call _ (hdv.out _))))); refine wpQuiet_nil ?_; rintro W3 ⟨⟨_, hn_W3⟩, rfl⟩)
                  have hs3 := Lib.hid (hs.out.new hn_W3)
                  clear q0 q1 q2 q3 hjo hto hy hqc hs hdv
                  go_wp2_with fail
                  go_loopw [17] (fun x0 wr => ∃ k : Nat, x0 = .int .i64 k ∧ c ≤ k ∧ k ≤ n + 1 ∧ Hid (SSt W B H o n (n + 1) G1 C2 (fun i' k' => if i' < j then eliR Z1 c c i' k' else if i' = j ∧ k' < k then eliR Z1 c c j k' else Z1 i' k') wr)) (fun x0 _ => n + 1 - (intOf x0).toNat)
                  case atStart => exact ⟨c, rfl, Nat.le_refl _, by omega, hs3.out.congr fun i' k hi' _ => by
                    by_cases h1 : i' < j
                    · rw [if_pos h1, if_pos h1]
                    · rw [if_neg h1, if_neg h1]
                      by_cases h2 : i' = j ∧ k < c
                      · rw [if_pos h2, h2.1, hleft.out j k hlj h2.2]
                      · rw [if_neg h2]⟩
                  case round =>
                    clear hs3
                    obtain ⟨k, rfl, hk1, hk, hs⟩ := hrel
                    by_cases hkm : k ≤ n
                    · have hkm1 : k < n + 1 := by omega
                      have hjo := hs.out.mx.cellO hlj
                      have hto := hs.out.mx.cellO hlt
                      have hx0 := hs.out.mx.cell hlj hkm1
                      rw [if_neg (by omega), if_neg (by omega)] at hx0
                      have hT := hs.out.mx.cell hlt hkm1
                      rw [if_pos (by omega), show eliR Z1 c c c k = Z1 c k from if_neg (by omega)] at hT
                      obtain ⟨x1, hxe⟩ : ∃ x1, Hid (x1 = Z1 j k) := ⟨_, rfl⟩
                      obtain ⟨z, hze⟩ : ∃ z, Hid (z = Z1 c k) := ⟨_, rfl⟩
                      rw [← hxe.out] at hx0
                      rw [← hze.out] at hT
                      have hxl : x1 < 256 := by rw [hxe.out]; exact hb1.out j k hlj hkm1
                      have hzl : z < 256 := by rw [hze.out]; exact hb1.out c k hlt hkm1
                      obtain ⟨v, hv⟩ : ∃ v, Hid (v = mul f z) := ⟨_, rfl⟩
                      have hvl : v < 256 := by rw [hv.out]; exact mul_lt _ _ hfl
                      have hxor := i64_xor_nat x1 v (by omega) (by omega)
                      have htm : Hid (∀ w, Calls Try.prog 25 #[.int .i64 f, .int .i64 z] w fun e w' => e = .returned (.int .i64 v) ∧ New w w') := fun w => (mulOf_any f z hfl hzl w).mono fun e w' h => ⟨by rw [hv.out]; exact h.1, by rw [← h.2]; exact New.refl w⟩
                      have q0 := NewW.keep hjo
                      have q1 := NewW.keep hto
                      have q2 := NewW.keep hx0
                      have q3 := NewW.keep hT
                      have b1 : (0 : Int) ≤ (k : Int) := by omega
                      have b2 : (k : Int) ≤ (n : Int) := by omega
                      have b3 : (k : Int) < (n : Int) + 1 := by omega
                      go_wp2
                      (refine wp_region_new_tail 17 (by kernel_rfl) (by kernel_rfl) ?_; simp only [List.take_succ_cons, List.take_zero, List.drop_succ_cons, List.drop_zero]; (repeat (first | go_big_quiet_step (first | (go_at_call 25; exact NewW.call _ (htm.out _))) | quiet_step (first | (go_at_call 25; exact NewW.call _ (htm.out _))))); refine wpQuiet_nil ?_; rintro W4 ⟨⟨_, hn_W4⟩, rfl⟩)
                      have hs7 := hs.out.new hn_W4
                      have hx3 := (hn_W4.cell (lt_of_cell hx0)).trans hx0
                      have hf3 := hs7.mx.frozen hlj k
                      have hs8 := Lib.hid ((hs7.set hlj (k := k) (x1 ^^^ v)).congr (Y := fun i' k' => if i' < j then eliR Z1 c c i' k' else if i' = j ∧ k' < k + 1 then eliR Z1 c c j k' else Z1 i' k') fun i' k' _ _ => by
                        by_cases h1 : i' = j ∧ k' = k
                        · rw [if_pos h1, if_neg (by omega), if_pos ⟨h1.1, by omega⟩, h1.2]
                          unfold eliR
                          rw [if_pos htj, hxe.out, hv.out, hze.out, hf.out, hye.out, hq.out]
                        · rw [if_neg h1]
                          by_cases h2 : i' < j
                          · rw [if_pos h2, if_pos h2]
                          · rw [if_neg h2, if_neg h2]
                            by_cases h3 : i' = j ∧ k' < k
                            · rw [if_pos h3, if_pos ⟨h3.1, by omega⟩]
                            · rw [if_neg h3, if_neg (by omega)])
                      clear hs7 hs hx0 hT q0 q1 q2 q3 hjo hto
                      go_wp2
                      go_roundw
                      case rel => exact ⟨k + 1, by go_num, by omega, by omega, hs8.out⟩
                      case measure => simp [intOf]; omega
                    · have hs8 : Hid (SSt W B H o n (n + 1) G1 C2 (fun i' k' => if i' < j + 1 then eliR Z1 c c i' k' else Z1 i' k') wr) := hs.out.congr fun i' k' _ hk' => by
                        by_cases h1 : i' < j
                        · rw [if_pos h1, if_pos (by omega)]
                        · rw [if_neg h1]
                          by_cases h2 : i' = j
                          · subst h2
                            rw [if_pos ⟨rfl, by omega⟩, if_pos (by omega)]
                          · rw [if_neg (fun h => h2 h.1), if_neg (by omega)]
                      have hki : ¬ (k : Int) ≤ (n : Int) := by omega
                      clear hs hkm
                      go_wp2
                      go_roundw
                      case rel => exact ⟨j + 1, by go_num, by omega, by omega, hs8.out⟩
                      case measure => simp [intOf]; omega
                · have hs9 : Hid (SSt W B H o n (n + 1) G1 C2 (gaN Z n kk (c + 1)) wr) := by rw [hnext0.out]; exact hs.out.congr fun i' k' hi' _ => by rw [if_pos (by omega)]
                  have hji : ¬ (j : Int) < (n : Int) := by omega
                  clear hs hlj
                  go_wp2
                  go_roundw
                  case rel => exact ⟨c + 1, G1, C2, by go_num, by omega, hs9.out⟩
                  case measure => simp [intOf]; omega
        · have hcn : c = n := by omega
          obtain ⟨U, hU⟩ : ∃ U, Hid (U = gaN Z n kk n) := ⟨_, rfl⟩
          have hsU : Hid (SSt W B H o n (n + 1) G C U wr) := by rw [hU.out, ← hcn]; rw [hcn]; rw [hcn] at hs; exact hs.out
          have hUb : Hid (bytesP U n (n + 1)) := by rw [hU.out]; exact gaN_bytes hb.out n
          have hUd : Hid (∀ i, i < n → U i i ≠ 0) := by rw [hU.out]; exact (gaN_shape hb.out hr0.out n (Nat.le_refl _)).2
          have hxb : Hid (∀ i, i < n → x i < 256) := fun i hi => by rw [hx.out]; exact invN_lt hb.out i kk hi hk
          have hbk : Hid (∀ i, i < n → divN (bkN U x n i (n - (i + 1))) (U i i) = x i) := fun i hi => by rw [hx.out, hU.out]; exact back_inv hb.out hr0.out hk hi
          have hnw0 : Hid (New w wr) := by
            have := hs.out.bl
            rw [hB.out] at this
            exact hnW0.out.trans this
          have hci : ¬ (c : Int) < (n : Int) := by omega
          obtain ⟨Wb, hWb⟩ : ∃ Wb, Wb = wr := ⟨_, rfl⟩
          rw [← hWb] at hsU hnw0 ⊢
          clear hs hlt hcn hWb
          go_wp2_with fail
          go_loopw [19] (fun x0 wr => ∃ (t : Nat) (v : Int), x0 = .int .i64 v ∧ v = (t : Int) - 1 ∧ t ≤ n ∧ Hid (New Wb wr) ∧ Hid (wr.rowIs Wb.heap.size 3 n (bkF x t))) (fun x0 _ => (intOf x0 + 1).toNat)
          case atStart => exact ⟨n, _, rfl, by go_num, Nat.le_refl _, (New.refl Wb).alloc _, (World.rowIs_made Wb (.int .i64 0) n 3).congr fun j hj => by
            show Value.int .i64 0 = bkF x n j
            unfold bkF
            rw [if_neg (by omega)]
            rfl⟩
          case round =>
            obtain ⟨t, v, rfl, hv, ht, hn2, hrw⟩ := hrel
            by_cases ht0 : t = 0
            · have hv1 : v = -1 := by omega
              subst hv1
              have hpost : Hid (SolP n x w (.returned (.slice (some ⟨Wb.heap.size, 0, none⟩) n n)) wr) := ⟨_, _, rfl, hnw0.out.size, hrw.out.congr fun j hj => by simp [bkF, ht0], hnw0.out.next hn2.out⟩
              clear hv ht0
              go_wp2
              go_ret
              exact hpost.out
            · obtain ⟨i, rfl⟩ : ∃ i, t = i + 1 := ⟨t - 1, by omega⟩
              have hvi : v = (i : Int) := by omega
              subst hvi
              have hin : i < n := by omega
              have hi0 : (i : Int) ≥ 0 := by omega
              have hii : (i : Int) < (n : Int) := by omega
              have a0 : (0 : Int) ≤ (i : Int) := by omega
              have hs := Lib.hid (hsU.out.new hn2.out)
              have hio := hs.out.mx.cellO hin
              have hun := hs.out.mx.cell hin (show n < n + 1 by omega)
              obtain ⟨s0, hs0⟩ : ∃ s0, Hid (s0 = U i n) := ⟨_, rfl⟩
              rw [← hs0.out] at hun
              have hs0l : s0 < 256 := by rw [hs0.out]; exact hUb.out i n hin (by omega)
              have hs0b : Hid (s0 = bkN U x n i 0) := by rw [hs0.out]; exact (Nat.xor_zero _).symm
              have hnn : (n : Int) < (n : Int) + 1 := by omega
              clear hv ht0 ht
              go_wp2_with fail
              go_loopw [21, 20] (fun a b wr => ∃ d k s : Nat, a = .int .i64 k ∧ b = .int .i64 s ∧ Hid (k = i + 1 + d) ∧ i < k ∧ k ≤ n ∧ s < 256 ∧ Hid (s = bkN U x n i d) ∧ Hid (New Wb wr) ∧ Hid (wr.rowIs Wb.heap.size 3 n (bkF x (i + 1)))) (fun a _ _ => n - (intOf a).toNat)
              case atStart => exact ⟨0, i + 1, s0, by go_num, rfl, rfl, by omega, by omega, hs0l, hs0b, hn2.out, hrw.out⟩
              case round =>
                clear hs hio hun hn2 hrw hs0b hs0l hs0
                obtain ⟨d, k, s, rfl, rfl, hkd, hik, hkn, hsl, hsb, hn2, hrw⟩ := hrel
                have hs := Lib.hid (hsU.out.new hn2.out)
                by_cases hkl : k < n
                · have hki : (k : Int) < (n : Int) := by omega
                  have a1 : (0 : Int) ≤ (k : Int) := by omega
                  have hio := hs.out.mx.cellO hin
                  have huk := hs.out.mx.cell hin (show k < n + 1 by omega)
                  have hxk := hrw.out.cell hkl
                  rw [show bkF x (i + 1) k = .int .i64 ((x k : Nat) : Int) from by unfold bkF; rw [if_pos (by omega)]] at hxk
                  obtain ⟨u, hu⟩ : ∃ u, Hid (u = U i k) := ⟨_, rfl⟩
                  obtain ⟨y, hy⟩ : ∃ y, Hid (y = x k) := ⟨_, rfl⟩
                  rw [← hu.out] at huk
                  rw [← hy.out] at hxk
                  have hul : u < 256 := by rw [hu.out]; exact hUb.out i k hin (by omega)
                  have hyl : y < 256 := by rw [hy.out]; exact hxb.out k hkl
                  obtain ⟨v, hv⟩ : ∃ v, Hid (v = mul u y) := ⟨_, rfl⟩
                  have hvl : v < 256 := by rw [hv.out]; exact mul_lt _ _ hul
                  have hxor := i64_xor_nat s v (by omega) (by omega)
                  have htm : Hid (∀ w, Calls Try.prog 25 #[.int .i64 u, .int .i64 y] w fun e w' => e = .returned (.int .i64 v) ∧ New w w') := fun w => (mulOf_any u y hul hyl w).mono fun e w' h => ⟨by rw [hv.out]; exact h.1, by rw [← h.2]; exact New.refl w⟩
                  have hs2l : s ^^^ v < 256 := xor_lt8 hsl hvl
                  have hs2b : Hid (s ^^^ v = bkN U x n i (d + 1)) := by rw [bkN_succ, ← hkd.out, ← hu.out, ← hy.out, ← hv.out, ← hsb.out]; exact (rfl : _ = _)
                  have hkd2 : Hid (k + 1 = i + 1 + (d + 1)) := by have := hkd.out; show k + 1 = i + 1 + (d + 1); omega
                  have q0 := NewW.keep hio
                  have q1 := NewW.keep huk
                  have q2 := NewW.keep hxk
                  have b3 : (k : Int) < (n : Int) + 1 := by omega
                  clear hs
                  go_wp2
                  (refine wp_region_quiet_new (by kernel_rfl) (by kernel_rfl) ?_; (repeat (first | go_big_quiet_step (first | (go_at_call 25; exact NewW.call _ (htm.out _))) | quiet_step (first | (go_at_call 25; exact NewW.call _ (htm.out _))))); refine wpQuiet_nil ?_; rintro W4 ⟨⟨_, hn_W4⟩, rfl⟩)
                  go_wp2
                  go_roundw
                  case rel => exact ⟨d + 1, k + 1, s ^^^ v, by go_num, rfl, hkd2, by omega, by omega, hs2l, hs2b, hn2.out.next hn_W4, rowIs_new hrw.out hn_W4⟩
                  case measure => simp [intOf]; omega
                · have hki : ¬ (k : Int) < (n : Int) := by omega
                  have hio := hs.out.mx.cellO hin
                  have hui := hs.out.mx.cell hin (show i < n + 1 by omega)
                  obtain ⟨q, hq⟩ : ∃ q, Hid (q = U i i) := ⟨_, rfl⟩
                  rw [← hq.out] at hui
                  have hql : q < 256 := by rw [hq.out]; exact hUb.out i i hin (by omega)
                  have hq0 : q ≠ 0 := by rw [hq.out]; exact hUd.out i hin
                  have hxi : Hid (divN s q = x i) := by
                    have e : d = n - (i + 1) := by have := hkd.out; omega
                    rw [hsb.out, hq.out, e]
                    exact hbk.out i hin
                  have hz := hrw.out.frozen i
                  obtain ⟨X, hX⟩ : ∃ X, wr.cell? ⟨Wb.heap.size, i, none⟩ = some X := ⟨_, hrw.out.cell hin⟩
                  have hrw4 : Hid ((wr.setCell ⟨Wb.heap.size, i, none⟩ (.int .i64 ((x i : Nat) : Int))).rowIs Wb.heap.size 3 n (bkF x i)) := by
                    have := hrw.out.set i (.int .i64 ((x i : Nat) : Int))
                    rw [bkF_set] at this
                    exact this
                  have hn4 : Hid (New Wb (wr.setCell ⟨Wb.heap.size, i, none⟩ (.int .i64 ((x i : Nat) : Int)))) := hn2.out.set (Nat.le_refl _) _
                  have hii2 : (i : Int) < (n : Int) + 1 := by omega
                  clear hs hkl hkd hsb hq
                  go_wp2_with fail
                  refine (divOf_any s q hsl hql hq0 _).mono ?_
                  rintro e W4 ⟨rfl, rfl⟩
                  rw [hxi.out]
                  go_wp2
                  go_roundw
                  case rel => exact ⟨i, _, rfl, (by first | rfl | omega), by omega, hn4.out, hrw4.out⟩
                  case measure => simp [intOf]
end Go.Proofs.Ytjmjnodaohbpfaa.mat
