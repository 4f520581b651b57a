/-
  Contract of the reference's swept.
-/
import Derived.Test.YtidhghcgbomdiaaMatBeside
namespace Go.Proofs.Ytidhghcgbomdiaa.mat
open Go.ChangeShapes Go.WideShapes Go.ChangeAt Go.RowKit Go.Proofs.Ytidhghcgbomdiaa.kit Go.Proofs.Ytidhghcgbomdiaa.gf Go.Deep
set_option linter.unusedVariables false

/-- the matrix that is cleared -/
structure SSt (w0 : World) (B H o n m : Nat) (G C : Nat → Nat) (Z : Nat → Nat → Nat) (w : World) : Prop where
  mx : Mx w B H o n m G C Z
  bl : Below B w0 w
  hs : H ≤ w.heap.size
section
variable {w0 w w' : World} {B H o n m : Nat} {G C : Nat → Nat} {Z Y : Nat → Nat → Nat}
theorem SSt.hB (h : SSt w0 B H o n m G C Z w) : B ≤ w.heap.size := by have := h.mx.ob; have := h.hs; omega
theorem SSt.new (h : SSt w0 B H o n m G C Z w) (hn : New w w') : SSt w0 B H o n m G C Z w' := ⟨h.mx.new h.hs hn, Below.next h.bl hn h.hB, Nat.le_trans h.hs hn.size⟩
theorem SSt.congr (h : SSt w0 B H o n m G C Z w) (he : ∀ i k, i < n → k < m → Z i k = Y i k) : SSt w0 B H o n m G C Y w := ⟨h.mx.congr he, h.bl, h.hs⟩
theorem SSt.drew (h : SSt w0 B H o n m G C Z w) : SSt w0 B H o n m G C Z w.drew := h.new (New.refl w).drew
theorem SSt.set (h : SSt w0 B H o n m G C Z w) {i k : Nat} (hi : i < n) (y : Nat) : SSt w0 B H o n m G C (fun i' k' => if i' = i ∧ k' = k then y else Z i' k') (w.setCell ⟨G i, k, none⟩ (.int .i64 y)) :=
  ⟨h.mx.set hi y, h.bl.setCell (h.mx.gb i hi).1 _, by simpa [World.setCell] using h.hs⟩
theorem SSt.swap (h : SSt w0 B H o n m G C Z w) {a b : Nat} (ha : a < n) (hb : b < n) : SSt w0 B H o n m (swpN G a b) (swpN C a b) (swp Z a b) ((w.setCell ⟨o, a, none⟩ (.slice (some ⟨G b, 0, none⟩) m (C b))).setCell ⟨o, b, none⟩ (.slice (some ⟨G a, 0, none⟩) m (C a))) :=
  ⟨h.mx.swap ha hb, (h.bl.setCell h.mx.ob.1 _).setCell h.mx.ob.1 _, by simpa [World.setCell] using h.hs⟩
end
set_option maxRecDepth 100000 in
set_option maxHeartbeats 4000000 in
theorem swept_any (A : Option Addr) (n c0 m : Nat) (R : Nat → Option Addr) (L C0 : Nat → Nat) (M : Nat → Nat → Int) (w : World) (h : RdM .i64 w A n R L C0 M) (hm : mayM n L M = true) (hL : L 0 = m) :
    Calls Try.prog 53 #[.slice A n c0] w fun e w' => e = .returned (.int .i64 ((stR (fun i k => elN M i k) n m).2 : Nat)) ∧ New w w' := by
  obtain ⟨hn1, hn8, hrow⟩ := mayM_out hm
  have h0 := Lib.hid h
  have hm1 : 1 ≤ m := by have := (hrow 0 (by omega)).2.1; omega
  have hm8 : m ≤ 8 := by have := (hrow 0 (by omega)).2.2.1; omega
  obtain ⟨b, off, rfl, hb, hcs⟩ := h.2.1 (by omega)
  have z0 := hcs 0 (by omega)
  rw [hL] at z0
  simp at z0
  have hb0 : Hid (bytesP (fun i k => elN M i k) n m) := fun i k hi hk => by
    have h1 := hrow i hi
    have := allE_out h1.2.2.2 k (by have := h1.1; omega)
    unfold elP at this
    show (M i k).toNat < 256
    omega
  have hcall := Lib.hid (fun w1 (hn : New w w1) => ownMatrix_any (some ⟨b, off, none⟩) n c0 m R L C0 M w1 (h.new hn) hm hL)
  obtain ⟨Z0, hZ0⟩ : ∃ Z0 : Nat → Nat → Nat, Z0 = fun i k => elN M i k := ⟨_, rfl⟩
  rw [← hZ0] at hb0 hcall ⊢
  obtain ⟨rv, hrv⟩ : ∃ rv, Hid (rv = (stR Z0 n m).2) := ⟨_, rfl⟩
  rw [← hrv.out]
  clear h hm hL hrow hcs hZ0 h0
  go_enter Try.func53, Try.ntmps53
  go_wp2_with fail
  refine (hcall.out _ (New.refl w)).mono ?_
  rintro e W ⟨o, cap, G0, C1, rfl, hcap, hmx, hnW⟩
  have z1 := (hnW.cell hb).trans z0
  have hst0 : Hid (SSt W w.heap.size W.heap.size o n m G0 C1 Z0 W) := ⟨hmx, Below.refl _ _, Nat.le_refl _⟩
  have hBH := hnW.size
  have hnW0 := Lib.hid hnW
  obtain ⟨B, hB⟩ : ∃ B, Hid (B = w.heap.size) := ⟨_, rfl⟩
  obtain ⟨H, hH⟩ : ∃ H, Hid (H = W.heap.size) := ⟨_, rfl⟩
  rw [← hB.out, ← hH.out] at hst0
  have hbB : b < B := by rw [hB.out]; exact hb
  clear hmx hnW z0 hcall hBH
  go_wp2_with fail
  go_loopw [5, 4] (fun x r wr => ∃ (c t : Nat) (G C : Nat → Nat) (Z : Nat → Nat → Nat), x = .int .i64 c ∧ r = .int .i64 t ∧ c ≤ m ∧ t ≤ n ∧ Hid (stR Z0 n c = (Z, t)) ∧ Hid (SSt W B H o n m G C Z wr)) (fun x _ _ => m - (intOf x).toNat)
  case atStart => exact ⟨0, 0, G0, C1, Z0, rfl, rfl, by omega, by omega, rfl, hst0.out⟩
  case round =>
    clear hst0
    obtain ⟨c, t, G, C, Z, rfl, rfl, hc, ht, hst, hs⟩ := hrel
    have hby : Hid (bytesP Z n m) := by have := (stR_bytes hb0.out c).1; rw [hst.out] at this; exact this
    have hzm := (hs.out.bl.cell (p := ⟨b, off, none⟩) hbB).trans z1
    by_cases hlt : c < m
    · have hci : (c : Int) < (m : Int) := by omega
      go_wp2_with fail
      go_loopw [4, 6] (fun r x wr => ∃ i : Nat, r = .int .i64 t ∧ x = .int .i64 i ∧ t ≤ i ∧ i ≤ n ∧ Hid (∀ i', t ≤ i' → i' < i → Z i' c = 0) ∧ Hid (SSt W B H o n m G C Z wr)) (fun _ x _ => n - (intOf x).toNat)
      case atStart => exact ⟨t, rfl, rfl, by omega, ht, (fun i' h1 h2 => by omega), hs.out⟩
      case round =>
        clear hs hzm
        obtain ⟨i, rfl, rfl, hti, hin, hz, hs⟩ := hrel
        by_cases hli : i < n
        · have hii : (i : Int) < (n : Int) := by omega
          have hio := hs.out.mx.cellO hli
          have hv := hs.out.mx.cell hli hlt
          by_cases hz0 : Z i c = 0
          · have hz2 : Hid (∀ i', t ≤ i' → i' < i + 1 → Z i' c = 0) := fun i' a b => by
              by_cases e : i' = i
              · rw [e]; exact hz0
              · exact hz.out i' a (by omega)
            rw [hz0] at hv
            clear hz0
            go_wp2
            go_roundw
            case rel => exact ⟨i + 1, rfl, by go_num, by omega, by omega, hz2, hs.out⟩
            case measure => simp [intOf]; omega
          · have hp : pv Z c t (n - t) = some i := by
              have := pv_found (Z := Z) (c := c) (t := t) (j := i - t) (k := n - t) (by omega) (fun i' a b => hz.out i' a (by omega)) (by rw [show t + (i - t) = i by omega]; exact hz0)
              rw [show t + (i - t) = i by omega] at this
              exact this
            have hst2 : Hid (stR Z0 n (c + 1) = (eliR (swp Z t i) c t, t + 1)) := by
              have h1 : pv (stR Z0 n c).1 c (stR Z0 n c).2 (n - (stR Z0 n c).2) = some i := by rw [hst.out]; exact hp
              show _ = _
              rw [stR_some h1, hst.out]
            have htn : t < n := by omega
            have hto := hs.out.mx.cellO htn
            have hfo := hs.out.mx.frozenO t
            have hfo2 := hs.out.mx.frozenO i
            obtain ⟨X, hX⟩ : ∃ X, (wr.setCell ⟨o, t, none⟩ (.slice (some ⟨G i, 0, none⟩) m (C i))).cell? ⟨o, i, none⟩ = some X := hs.out.mx.set_some hli t _
            have hXf : (wr.setCell ⟨o, t, none⟩ (.slice (some ⟨G i, 0, none⟩) m (C i))).frozen? ⟨o, i, none⟩ = false := hs.out.mx.set_frozen t _ i
            have hsw := Lib.hid (hs.out.swap htn hli).drew
            have hzi : ((Z i c : Nat) : Int) ≠ 0 := by omega
            have hzb : (((Z i c : Nat) : Int) == 0) = false := by simpa using hz0
            obtain ⟨zz, hzz⟩ : ∃ zz, Hid (zz = Z i c) := ⟨_, rfl⟩
            rw [← hzz.out] at hv hzi hzb
            have hti2 : (t : Int) < (n : Int) := by omega
            have a1 : (0 : Int) ≤ (i : Int) := by omega
            have a2 : (0 : Int) ≤ (t : Int) := by omega
            clear hp
            go_wp2_with fail
            go_region
            have hz1 : swp Z t i t c ≠ 0 := by unfold swp; rw [if_pos rfl]; exact hz0
            have hb1 := Lib.hid (swp_bytes hby.out htn hli)
            clear hX hXf hio hv hto hfo hfo2 hzi hzb hzz hs hz hz0 hst hby
            obtain ⟨W1, hW1⟩ : ∃ W1, W1 = ((wr.setCell ⟨o, t, none⟩ (.slice (some ⟨G i, 0, none⟩) m (C i))).setCell ⟨o, i, none⟩ (.slice (some ⟨G t, 0, none⟩) m (C t))).drew := ⟨_, rfl⟩
            rw [← hW1] at hsw ⊢
            obtain ⟨Z1, hZ1⟩ : ∃ Z1, Z1 = swp Z t i := ⟨_, rfl⟩
            obtain ⟨G1, hG1⟩ : ∃ G1, G1 = swpN G t i := ⟨_, rfl⟩
            obtain ⟨C2, hC2⟩ : ∃ C2, C2 = swpN C t i := ⟨_, rfl⟩
            rw [← hZ1] at hsw hb1 hz1 hst2
            rw [← hG1, ← hC2] at hsw
            obtain ⟨q, hq⟩ : ∃ q, Hid (q = Z1 t c) := ⟨_, rfl⟩
            rw [← hq.out] at hz1
            have hql : q < 256 := by rw [hq.out]; exact hb1.out t c htn hlt
            clear hW1 hZ1 hG1 hC2 X
            go_wp2_with fail
            go_loopw [7] (fun x wr => ∃ j : Nat, x = .int .i64 j ∧ t < j ∧ j ≤ n ∧ Hid (SSt W B H o n m G1 C2 (fun i' k' => if i' < j then eliR Z1 c t i' k' else Z1 i' k') wr)) (fun x _ => n - (intOf x).toNat)
            case atStart => exact ⟨t + 1, by go_num, by omega, by omega, hsw.out.congr fun i' k' _ _ => by
              by_cases h1 : i' < t + 1
              · rw [if_pos h1]
                unfold eliR
                rw [if_neg (by omega)]
              · rw [if_neg h1]⟩
            case round =>
              clear hsw
              obtain ⟨j, rfl, htj, hjn, hs⟩ := hrel
              by_cases hlj : j < n
              · have hji : (j : Int) < (n : Int) := by omega
                have hjo := hs.out.mx.cellO hlj
                have hto := hs.out.mx.cellO htn
                have hy := hs.out.mx.cell hlj hlt
                rw [if_neg (by omega)] at hy
                have hqc := hs.out.mx.cell htn hlt
                rw [if_pos (by omega), show eliR Z1 c t t c = Z1 t c from if_neg (by omega), ← hq.out] at hqc
                obtain ⟨y, hye⟩ : ∃ y, Hid (y = Z1 j c) := ⟨_, rfl⟩
                rw [← hye.out] at hy
                have hyl : y < 256 := by rw [hye.out]; exact hb1.out j c hlj hlt
                obtain ⟨f, hf⟩ : ∃ f, Hid (f = divN y q) := ⟨_, rfl⟩
                have hfl : f < 256 := by rw [hf.out]; exact divN_lt _ _
                have hdv : Hid (∀ w, Calls Try.prog 44 #[.int .i64 y, .int .i64 q] w fun e w' => e = .returned (.int .i64 f) ∧ New w w') := fun w => (divOf_any y q hyl hql hz1 w).mono fun e w' h => ⟨by rw [hf.out]; exact h.1, by rw [← h.2]; exact New.refl w⟩
                have q0 := NewW.keep hjo
                have q1 := NewW.keep hto
                have q2 := NewW.keep hy
                have q3 := NewW.keep hqc
                have a3 : (0 : Int) ≤ (j : Int) := by omega
                have a4 : (0 : Int) ≤ (c : Int) := by omega
                have a5 : (c : Int) < (m : Int) := by omega
                have a6 : (t : Int) < (n : Int) := by omega
                go_wp2
                (refine wp_region_quiet_new (by kernel_rfl) (by kernel_rfl) ?_; (repeat (first | go_big_quiet_step (first | (go_at_call 44; exact NewW.call _ (hdv.out _))) | quiet_step (first | (go_at_call 44; exact NewW.call _ (hdv.out _))))); refine wpQuiet_nil ?_; rintro W3 ⟨⟨_, hn_W3⟩, rfl⟩)
                have hs3 := Lib.hid (hs.out.new hn_W3)
                have hjo3 := hs3.out.mx.cellO hlj
                clear q0 q1 q2 q3 hjo hto hy hqc hs hdv
                go_wp2_with fail
                go_loopw [77] (fun x wr => ∃ k : Nat, x = .int .i64 k ∧ k ≤ m ∧ Hid (SSt W B H o n m G1 C2 (fun i' k' => if i' < j then eliR Z1 c t i' k' else if i' = j ∧ k' < k then eliR Z1 c t j k' else Z1 i' k') wr)) (fun x _ => m - (intOf x).toNat)
                case atStart => exact ⟨0, rfl, Nat.zero_le _, hs3.out.congr fun i' k _ _ => by
                  by_cases h1 : i' < j
                  · rw [if_pos h1, if_pos h1]
                  · rw [if_neg h1, if_neg h1, if_neg (by omega)]⟩
                case round =>
                  clear hs3 hjo3
                  obtain ⟨k, rfl, hk, hs⟩ := hrel
                  by_cases hkm : k < m
                  · have hjo := hs.out.mx.cellO hlj
                    have hto := hs.out.mx.cellO htn
                    have hx := hs.out.mx.cell hlj hkm
                    rw [if_neg (by omega), if_neg (by omega)] at hx
                    have hT := hs.out.mx.cell htn hkm
                    rw [if_pos (by omega), show eliR Z1 c t t k = Z1 t k from if_neg (by omega)] at hT
                    obtain ⟨x, hxe⟩ : ∃ x, Hid (x = Z1 j k) := ⟨_, rfl⟩
                    obtain ⟨z, hze⟩ : ∃ z, Hid (z = Z1 t k) := ⟨_, rfl⟩
                    rw [← hxe.out] at hx
                    rw [← hze.out] at hT
                    have hxl : x < 256 := by rw [hxe.out]; exact hb1.out j k hlj hkm
                    have hzl : z < 256 := by rw [hze.out]; exact hb1.out t k htn hkm
                    obtain ⟨v, hv⟩ : ∃ v, Hid (v = mul f z) := ⟨_, rfl⟩
                    have hvl : v < 256 := by rw [hv.out]; exact mul_lt _ _ hfl
                    have hxor := i64_xor_nat x v (by omega) (by omega)
                    have htm : Hid (∀ w, Calls Try.prog 42 #[.int .i64 f, .int .i64 z] w fun e w' => e = .returned (.int .i64 v) ∧ New w w') := fun w => (mulOf_any f z hfl hzl w).mono fun e w' h => ⟨by rw [hv.out]; exact h.1, by rw [← h.2]; exact New.refl w⟩
                    have q0 := NewW.keep hjo
                    have q1 := NewW.keep hto
                    have q2 := NewW.keep hx
                    have q3 := NewW.keep hT
                    have b1 : (0 : Int) ≤ (k : Int) := by omega
                    have b2 : (k : Int) < (m : Int) := by omega
                    have b3 : (t : Int) < (n : Int) := by omega
                    go_wp2
                    (refine wp_region_new_tail 17 (by kernel_rfl) (by kernel_rfl) ?_; simp only [List.take_succ_cons, List.take_zero, List.drop_succ_cons, List.drop_zero]; (repeat (first | go_big_quiet_step (first | (go_at_call 42; exact NewW.call _ (htm.out _))) | quiet_step (first | (go_at_call 42; exact NewW.call _ (htm.out _))))); refine wpQuiet_nil ?_; rintro W4 ⟨⟨_, hn_W4⟩, rfl⟩)
                    have hs7 := hs.out.new hn_W4
                    have hx3 := (hn_W4.cell (lt_of_cell hx)).trans hx
                    have hf3 := hs7.mx.frozen hlj k
                    have hs8 := Lib.hid ((hs7.set hlj (k := k) (x ^^^ v)).congr (Y := fun i' k' => if i' < j then eliR Z1 c t i' k' else if i' = j ∧ k' < k + 1 then eliR Z1 c t j k' else Z1 i' k') fun i' k' _ _ => by
                      by_cases h1 : i' = j ∧ k' = k
                      · rw [if_pos h1, if_neg (by omega), if_pos ⟨h1.1, by omega⟩, h1.2]
                        unfold eliR
                        rw [if_pos htj, hxe.out, hv.out, hze.out, hf.out, hye.out, hq.out]
                      · rw [if_neg h1]
                        by_cases h2 : i' < j
                        · rw [if_pos h2, if_pos h2]
                        · rw [if_neg h2, if_neg h2]
                          by_cases h3 : i' = j ∧ k' < k
                          · rw [if_pos h3, if_pos ⟨h3.1, by omega⟩]
                          · rw [if_neg h3, if_neg (by omega)])
                    clear hs7 hs hx hT q0 q1 q2 q3 hjo hto
                    go_wp2
                    go_roundw
                    case rel => exact ⟨k + 1, by go_num, by omega, hs8.out⟩
                    case measure => simp [intOf]; omega
                  · have hs8 : Hid (SSt W B H o n m G1 C2 (fun i' k' => if i' < j + 1 then eliR Z1 c t i' k' else Z1 i' k') wr) := hs.out.congr fun i' k' _ hk' => by
                      by_cases h1 : i' < j
                      · rw [if_pos h1, if_pos (by omega)]
                      · rw [if_neg h1]
                        by_cases h2 : i' = j
                        · subst h2
                          rw [if_pos ⟨rfl, by omega⟩, if_pos (by omega)]
                        · rw [if_neg (fun h => h2 h.1), if_neg (by omega)]
                    have hki : ¬ (k : Int) < (m : Int) := by omega
                    clear hs hkm
                    go_wp2
                    go_roundw
                    case rel => exact ⟨j + 1, by go_num, by omega, by omega, hs8.out⟩
                    case measure => simp [intOf]; omega
              · have hs9 : Hid (SSt W B H o n m G1 C2 (eliR Z1 c t) wr) := hs.out.congr fun i' k' hi' _ => by rw [if_pos (by omega)]
                have hji : ¬ (j : Int) < (n : Int) := by omega
                clear hs hlj
                go_wp2
                go_roundw
                case rel => exact ⟨c + 1, t + 1, G1, C2, _, by go_num, by go_num, by omega, by omega, hst2, hs9.out⟩
                case measure => simp [intOf]; omega
        · have hin2 : i = n := by omega
          have hst2 : Hid (stR Z0 n (c + 1) = (Z, t)) := by
            have hp : pv Z c t (n - t) = none := pv_none fun i' a b => hz.out i' a (by omega)
            have h1 : pv (stR Z0 n c).1 c (stR Z0 n c).2 (n - (stR Z0 n c).2) = none := by rw [hst.out]; exact hp
            show _ = _
            rw [stR_none h1, hst.out]
          have hii : ¬ (i : Int) < (n : Int) := by omega
          clear hin2 hli
          go_wp2
          go_roundw
          case rel => exact ⟨c + 1, t, G, C, Z, by go_num, rfl, by omega, ht, hst2, hs.out⟩
          case measure => simp [intOf]; omega
    · have hcm : c = m := by omega
      have hret : Hid (Ending.returned (.int .i64 (t : Nat)) = .returned (.int .i64 (rv : Nat))) := by rw [hrv.out, ← hcm, hst.out]; rfl
      have hnf : Hid (New w wr) := by
        have := hs.out.bl
        rw [hB.out] at this
        exact hnW0.out.trans this
      have hci : ¬ (c : Int) < (m : Int) := by omega
      clear hcm hlt
      go_wp2
      go_ret
      exact ⟨hret.out, hnf.out⟩
end Go.Proofs.Ytidhghcgbomdiaa.mat
