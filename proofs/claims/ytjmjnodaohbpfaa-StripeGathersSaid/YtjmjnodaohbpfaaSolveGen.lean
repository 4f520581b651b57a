/-
  Contract of the reference's solved, up to four rows, for any list.
-/
import Derived.Test.YtjmjnodaohbpfaaMatBigAll
import Derived.Test.YtjmjnodaohbpfaaParSolve
namespace Go.Proofs.Ytjmjnodaohbpfaa.mat
open Go.ChangeShapes Go.WideShapes Go.ChangeAt Go.RowKit Go.Proofs.Ytjmjnodaohbpfaa.kit Go.Proofs.Ytjmjnodaohbpfaa.gf Go.Proofs.Ytjmjnodaohbpfaa.fld Go.Deep
set_option linter.unusedVariables false
set_option maxRecDepth 100000 in
set_option maxHeartbeats 4000000 in
theorem solved_gen (A V : Option Addr) (n c cv : Nat) (v : Nat → Nat) (R : Nat → Option Addr) (L C : Nat → Nat) (M : Nat → Nat → Int) (w : World) (h : RdM .i64 w A n R L C M) (hm : mayM n L M = true) (hL : L 0 = n)
    (hr : (stR (fun i k => elN M i k) n n).2 = n) (hV : RdI .i64 w V n (fun i => (v i : Nat))) (hv : ∀ r, r < n → v r < 256) (h4 : n ≤ 4) :
    Calls Try.prog 31 #[.slice A n c, .slice V n cv] w (SolP n (fun i => invV (fun i k => elN M i k) n v i) w) := by
  obtain ⟨hn1, hn8, _⟩ := mayM_out hm
  have hb : Hid (bytesP (fun i k => elN M i k) n n) := elN_bytes hm hL
  have hown := Lib.hid (fun w1 (hn : New w w1) => ownMatrix_cap A n c n R L C M w1 (h.new hn) hm hL)
  have hrd := Lib.hid (rdM_el h hm hL)
  obtain ⟨Z, hZ⟩ : ∃ Z : Nat → Nat → Nat, Z = fun i k => elN M i k := ⟨_, rfl⟩
  rw [← hZ] at hr hb hown ⊢
  have hrd2 : Hid (RdM .i64 w A n R (fun _ => n) C (fun i k => (Z i k : Nat))) := by rw [hZ]; exact hrd.out
  have hr0 := Lib.hid hr
  have hvH := Lib.hid hv
  clear hv
  obtain ⟨bv, ov, rfl, hbv, hcv⟩ := hV.2 (by omega)
  have hcv0 := Lib.hid hcv
  obtain ⟨d, hd⟩ : ∃ d, Hid (d = detN n Z) := ⟨_, rfl⟩
  have hdl : d < 256 := by rw [hd.out]; exact detN_lt _ _ hb.out
  have hd0 : d ≠ 0 := by rw [hd.out]; exact det_ne h4 hb.out hr
  have hdet : Hid (Calls Try.prog 50 #[.slice A n c] w fun e w' => e = .returned (.int .i64 (d : Nat)) ∧ New w w') := by
    rw [hd.out]; exact det_any n hn1 hn8 A c R C Z w hrd2.out hb.out
  obtain ⟨x, hx⟩ : ∃ x : Nat → Nat, Hid (x = fun i => invV Z n v i) := ⟨_, rfl⟩
  rw [← hx.out]
  have hmk := run_make_row' (P := Try.prog) 29 3 (.int .i64 0) 8 Try.underlying29 infoInt rfl .i64 .i64 n (by omega) (by omega)
  have h4i : (n : Int) ≤ 4 := by omega
  clear h hm hL hr hZ hrd hrd2 hV hcv
  go_enter Try.func31, Try.ntmps31
  go_wp2_with fail
  refine hdet.out.mono ?_
  rintro e W ⟨rfl, hnW⟩
  have hnW0 := Lib.hid hnW
  clear hnW hdet
  go_wp2_with fail
  go_loopw [32] (fun x0 wr => ∃ i : Nat, x0 = .int .i64 i ∧ i ≤ n ∧ Hid (New w wr) ∧ Hid (wr.rowIs W.heap.size 3 n (stF x 0 i))) (fun x0 _ => n - (intOf x0).toNat)
  case atStart => exact ⟨0, rfl, Nat.zero_le _, hnW0.out.alloc _, (World.rowIs_made W (.int .i64 0) n 3).congr fun j hj => by simp [stF]⟩
  case round =>
    obtain ⟨i, rfl, hi, hnw, hrw⟩ := hrel
    obtain ⟨w1, rfl⟩ : ∃ w1, w1 = wr := ⟨wr, rfl⟩
    by_cases hlt : i < n
    · have hii : (i : Int) < (n : Int) := by omega
      go_wp2_with fail
      refine (hown.out _ hnw.out).mono ?_
      rintro e W2 ⟨o, cap, G, C1, rfl, hcap, hmx, hnW2, hcp⟩
      have hcp0 : Hid (∀ j, j < n → n ≤ C1 j ∧ C1 j ≤ maxLen) := fun j hj => ⟨(hcp j hj).1, (hcp j hj).2.1⟩
      have hst0 : Hid (SSt w1 w1.heap.size W2.heap.size o n n G C1 Z W2) := ⟨hmx, hnW2, Nat.le_refl _⟩
      clear hmx hnW2 hcp
      obtain ⟨H, hH⟩ : ∃ H, Hid (H = W2.heap.size) := ⟨_, rfl⟩
      rw [← hH.out] at hst0
      have a0 : (0 : Int) ≤ (i : Int) := by omega
      go_wp2_with fail
      go_loopw [39] (fun x0 wr => ∃ k : Nat, x0 = .int .i64 k ∧ k ≤ n ∧ Hid (SSt w1 w1.heap.size H o n n G C1 (fun r q => if q = i ∧ r < k then v r else Z r q) wr)) (fun x0 _ => n - (intOf x0).toNat)
      case atStart => exact ⟨0, rfl, Nat.zero_le _, hst0.out.congr fun r q _ _ => by rw [if_neg (by omega)]⟩
      case round =>
        clear hst0
        obtain ⟨k, rfl, hkn, hs⟩ := hrel
        by_cases hkl : k < n
        · have hki : (k : Int) < (n : Int) := by omega
          have hko := hs.out.mx.cellO hkl
          have hf := hs.out.mx.frozen hkl i
          have hold := hs.out.mx.cell hkl hlt
          have cv := (hs.out.bl.cell (p := ⟨bv, ov + k, none⟩) (Nat.lt_of_lt_of_le hbv hnw.out.size)).trans ((hnw.out.cell hbv).trans (hcv0.out k hkl))
          obtain ⟨u, hu⟩ : ∃ u, Hid (u = v k) := ⟨_, rfl⟩
          rw [← hu.out] at cv
          have hs2 := Lib.hid ((hs.out.set hkl (k := i) u).congr (Y := fun r q => if q = i ∧ r < k + 1 then v r else Z r q) fun r q _ _ => by
            by_cases h1 : r = k ∧ q = i
            · rw [if_pos h1, if_pos ⟨h1.2, by omega⟩, hu.out, h1.1]
            · rw [if_neg h1]
              by_cases h2 : q = i ∧ r < k
              · rw [if_pos h2, if_pos ⟨h2.1, by omega⟩]
              · rw [if_neg h2, if_neg (by omega)]).drew
          have a1 : (0 : Int) ≤ (k : Int) := by omega
          obtain ⟨ol, hol⟩ : ∃ ol : Nat, Hid (ol = if i = i ∧ k < k then v k else Z k i) := ⟨_, rfl⟩
          rw [← hol.out] at hold
          clear hs hol
          go_wp2_with fail
          go_region
          go_wp2
          go_roundw
          case rel => exact ⟨k + 1, by go_num, by omega, hs2.out⟩
          case measure => simp [intOf]; omega
        · have hs2 : Hid (SSt w1 w1.heap.size H o n n G C1 (stcN Z i v) wr) := hs.out.congr fun r q hr1 _ => by
            unfold stcN
            by_cases h1 : q = i
            · rw [if_pos ⟨h1, by omega⟩, if_pos h1]
            · rw [if_neg (fun h => h1 h.1), if_neg h1]
          have hki : ¬ (k : Int) < (n : Int) := by omega
          have hsb := stcN_bytes' (i := i) hb.out hvH.out
          obtain ⟨d2, hd2⟩ : ∃ d2, Hid (d2 = detN n (stcN Z i v)) := ⟨_, rfl⟩
          have hdl2 : d2 < 256 := by rw [hd2.out]; exact detN_lt _ _ hsb
          have hcall : Hid (Calls Try.prog 50 #[.slice (some ⟨o, 0, none⟩) n cap] wr fun e w' => e = .returned (.int .i64 (d2 : Nat)) ∧ New wr w') := by
            rw [hd2.out]; exact det_any n hn1 hn8 _ cap _ _ _ wr (hs2.out.mx.rd hcp0.out hn8 (by omega)) hsb
          have hxi : Hid (divN d2 d = x i) := by rw [hd2.out, hd.out, hx.out]; exact cramer_vec h4 hb.out hr0.out hvH.out hlt
          have hnw2 : Hid (New w wr) := hnw.out.next hs2.out.bl
          have hrw2 : Hid (wr.rowIs W.heap.size 3 n (stF x 0 i)) := rowIs_new hrw.out hs2.out.bl
          clear hs hkl hsb
          go_wp2_with fail
          refine hcall.out.mono ?_
          rintro e W3 ⟨rfl, hn3⟩
          have hnw3 := Lib.hid (hnw2.out.next hn3)
          have hrw3 := Lib.hid (rowIs_new hrw2.out hn3)
          clear hn3 hcall
          go_wp2_with fail
          refine (divOf_any d2 d hdl2 hdl hd0 _).mono ?_
          rintro e W4 ⟨rfl, rfl⟩
          rw [hxi.out]
          have hz := hrw3.out.frozen i
          have hz2 := hrw3.out.cell hlt
          rw [stF_at] at hz2
          have hrw4 : Hid ((W3.setCell ⟨W.heap.size, i, none⟩ (.int .i64 ((x i : Nat) : Int))).rowIs W.heap.size 3 n (stF x 0 (i + 1))) := by
            have := hrw3.out.set i (.int .i64 ((x i : Nat) : Int))
            rw [stF_set] at this
            rw [← stF_next x i]
            exact this
          have hnw4 : Hid (New w (W3.setCell ⟨W.heap.size, i, none⟩ (.int .i64 ((x i : Nat) : Int)))) := hnw3.out.set hnW0.out.size _
          clear hnw2 hrw2 hs2 hcp0
          go_wp2
          go_roundw
          case rel => exact ⟨i + 1, by go_num, by omega, hnw4.out, hrw4.out⟩
          case measure => simp [intOf]; omega
    · have hin : i = n := by omega
      subst hin
      have hpost : Hid (SolP i x w (.returned (.slice (some ⟨W.heap.size, 0, none⟩) i i)) w1) := ⟨_, _, rfl, hnW0.out.size, hrw.out.congr fun j hj => by simp [stF, hj], hnw.out⟩
      have hii : ¬ (i : Int) < (i : Int) := by omega
      go_wp2
      go_ret
      exact hpost.out
end Go.Proofs.Ytjmjnodaohbpfaa.mat
