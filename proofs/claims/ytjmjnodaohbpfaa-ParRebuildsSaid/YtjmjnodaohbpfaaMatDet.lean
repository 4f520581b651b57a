/-
  Contract of the reference's det.
-/
import Derived.Test.YtjmjnodaohbpfaaMatSolve
import Derived.Test.YtjmjnodaohbpfaaMatSwept
namespace Go.Proofs.Ytjmjnodaohbpfaa.mat
open Go.ChangeShapes Go.WideShapes Go.ChangeAt Go.RowKit Go.Proofs.Ytjmjnodaohbpfaa.kit Go.Proofs.Ytjmjnodaohbpfaa.gf Go.Proofs.Ytjmjnodaohbpfaa.fld Go.Deep
set_option linter.unusedVariables false

def DetC (n : Nat) : Prop := ∀ (A : Option Addr) (c : Nat) (R : Nat → Option Addr) (C : Nat → Nat) (Z : Nat → Nat → Nat) (w : World), RdM .i64 w A n R (fun _ => n) C (fun i k => (Z i k : Nat)) → bytesP Z n n →
    Calls Try.prog 50 #[.slice A n c] w fun e w' => e = .returned (.int .i64 (detN n Z : Nat)) ∧ New w w'
def skN (i r : Nat) : Nat := if r < i then r else r + 1
/-- the rows of a minor -/
def minL (Gb Go C : Nat → Nat) (i N cnt : Nat) : List Value := (List.range cnt).map fun r => .slice (some ⟨Gb (skN i r), Go (skN i r) + 1, none⟩) (N - 1) (C (skN i r) - 1)
def cntN (i k : Nat) : Nat := if k ≤ i then k else k - 1
theorem minL_next (Gb Go C : Nat → Nat) (i N k : Nat) (h : k ≠ i) : minL Gb Go C i N (cntN i (k + 1)) = minL Gb Go C i N (cntN i k) ++ [.slice (some ⟨Gb k, Go k + 1, none⟩) (N - 1) (C k - 1)] := by
  have h1 : cntN i (k + 1) = cntN i k + 1 := by unfold cntN; split <;> split <;> omega
  have h2 : skN i (cntN i k) = k := by unfold skN cntN; split <;> split <;> omega
  unfold minL
  rw [h1, List.range_succ, List.map_append, List.map_singleton, h2]
theorem minL_len (Gb Go C : Nat → Nat) (i N cnt : Nat) : (minL Gb Go C i N cnt).length = cnt := by simp [minL]
theorem det_one : DetC 1 := fun A c R C Z w h hb => by
  obtain ⟨b, off, rfl, hbw, hcs⟩ := h.2.1 (by omega)
  obtain ⟨b2, off2, hR, hbw2, hcs2⟩ := (h.2.2 0 (by omega)).1.2 (by show 0 < 1; omega)
  have z0 := hcs 0 (by omega)
  have z1 := hcs2 0 (by show 0 < 1; omega)
  rw [hR] at z0
  simp at z0 z1
  have hv : Hid (detN 1 Z = Z 0 0) := by
    show 0 ^^^ mul (Z 0 0) 1 = _
    rw [gf.mul_one, Nat.zero_xor]
  clear hcs hcs2 hb h hR
  go_enter Try.func50, Try.ntmps50
  go_wp2
  go_ret
  exact ⟨by rw [hv.out]; rfl, New.refl w⟩
set_option maxRecDepth 100000 in
set_option maxHeartbeats 4000000 in
theorem det_step (N d : Nat) (hN : N = d + 1) (h2 : 2 ≤ N) (h8 : N ≤ 8) (ih : DetC d) : DetC N := fun A c R C Z w h hb => by
  obtain ⟨b, off, rfl, hbw, hcs⟩ := h.2.1 (by omega)
  have hrow : ∃ Gb Go : Nat → Nat, Hid (∀ i, i < N → R i = some ⟨Gb i, Go i, none⟩ ∧ Gb i < w.heap.size ∧ (∀ k, k < N → w.cell? ⟨Gb i, Go i + k, none⟩ = some (.int .i64 (Z i k : Nat))) ∧ N ≤ C i ∧ C i ≤ maxLen) :=
by
    have key : ∀ i, ∃ p : Nat × Nat, i < N → R i = some ⟨p.1, p.2, none⟩ ∧ p.1 < w.heap.size ∧ (∀ k, k < N → w.cell? ⟨p.1, p.2 + k, none⟩ = some (.int .i64 (Z i k : Nat))) ∧ N ≤ C i ∧ C i ≤ maxLen := fun i => by
      by_cases hi : i < N
      · obtain ⟨h1, h3, h4⟩ := h.2.2 i hi
        obtain ⟨b2, off2, hR, hbw2, hcs2⟩ := h1.2 (by show 0 < N; omega)
        exact ⟨(b2, off2), fun _ => ⟨hR, hbw2, hcs2, h3, h4⟩⟩
      · exact ⟨(0, 0), fun h => absurd h hi⟩
    obtain ⟨p, hp⟩ := Classical.axiomOfChoice key
    exact ⟨fun i => (p i).1, fun i => (p i).2, hp⟩
  obtain ⟨Gb, Go, hrow⟩ := hrow
  have hout : Hid (∀ i, i < N → w.cell? ⟨b, off + i, none⟩ = some (.slice (some ⟨Gb i, Go i, none⟩) N (C i))) := fun i hi => by rw [hcs i hi, (hrow.out i hi).1]
  have hb0 := Lib.hid hb
  have hih := Lib.hid ih
  have hNd := Lib.hid hN
  obtain ⟨F, hF⟩ : ∃ F : Nat → Nat, Hid (F = fun i => mul (Z i 0) (detN d (mnrN i Z))) := ⟨_, rfl⟩
  have hval : Hid (detN N Z = xs N F) := by rw [hF.out, hNd.out]; rfl
  have hmb : Hid (∀ i, bytesP (mnrN i Z) d d) := fun i => mnrN_bytes (by rw [← hNd.out]; exact hb0.out)
  obtain ⟨i1, hj0, hy0, hy1, hy2⟩ := info_parts info30
  clear hcs h hb ih hN
  have hne : ((N : Int) == 1) = false := by simp; omega
  go_enter Try.func50, Try.ntmps50
  go_wp2_with fail
  go_loopw [17, 3] (fun x o wr => ∃ i s : Nat, x = .int .i64 i ∧ o = .int .i64 s ∧ i ≤ N ∧ s < 256 ∧ Hid (s = xs i F) ∧ New w wr) (fun x _ _ => N - (intOf x).toNat)
  case atStart => exact ⟨0, 0, rfl, rfl, Nat.zero_le _, by omega, rfl, New.refl w⟩
  case round =>
    obtain ⟨i, s, rfl, rfl, hi, hs, hsx, hnw⟩ := hrel
    obtain ⟨w1, rfl⟩ : ∃ w1, w1 = wr := ⟨wr, rfl⟩
    by_cases hlt : i < N
    · have hii : (i : Int) < (N : Int) := by omega
      have a0 : (0 : Int) ≤ (i : Int) := by omega
      have hnw0 := Lib.hid hnw
      have c0 := (hnw0.out.cell hbw).trans (hout.out i hlt)
      have c1 := (hnw0.out.cell (hrow.out i hlt).2.1).trans ((hrow.out i hlt).2.2.1 0 (by omega))
      simp at c1
      obtain ⟨z, hz⟩ : ∃ z, Hid (z = Z i 0) := ⟨_, rfl⟩
      rw [← hz.out] at c1
      have hzl : z < 256 := by rw [hz.out]; exact hb0.out i 0 hlt (by omega)
      have hN0 : (0 : Int) < (N : Int) := by omega
      clear hnw
      by_cases hz0 : z = 0
      · have hF0 : F i = 0 := by rw [hF.out]; show mul (Z i 0) _ = 0; rw [← hz.out, hz0, gf.zero_mul]
        have hsx2 : Hid (s = xs (i + 1) F) := by show s = xs i F ^^^ F i; rw [hF0, Nat.xor_zero]; exact hsx.out
        rw [hz0] at c1
        clear hz0 hz hF0 hsx
        go_wp2
        go_roundw
        case rel => exact ⟨i + 1, s, by go_num, rfl, by omega, hs, hsx2, hnw0.out⟩
        case measure => simp [intOf]; omega
      · have hzb : (((z : Nat) : Int) == 0) = false := by simpa using hz0
        clear hz0
        have hwl := hnw0.out.size
        go_wp2_with fail
        go_loopw [29, 5] (fun x o w2 => ∃ k : Nat, x = .int .i64 k ∧ k ≤ N ∧ w2.ownsRow w1.heap.size 29 1 o (cntN i k) (minL Gb Go C i N (cntN i k)) ∧ Hid (New w1 w2)) (fun x _ _ => N - (intOf x).toNat)
        case atStart => exact ⟨0, rfl, Nat.zero_le _, World.ownsRow_nil _ _ _ _, New.refl w1⟩
        case round =>
          obtain ⟨k, rfl, hk, hown, hn2⟩ := hrel
          by_cases hkl : k < N
          · have hki : (k : Int) < (N : Int) := by omega
            have a1 : (0 : Int) ≤ (k : Int) := by omega
            have hcl : cntN i k ≤ 8 := by unfold cntN; split <;> omega
            by_cases hke : k = i
            · have e1 : cntN i (k + 1) = cntN i k := by rw [hke]; unfold cntN; rw [if_neg (by omega), if_pos (Nat.le_refl _)]; omega
              have hown2 := Lib.hid hown
              clear hown
              subst hke
              go_wp2
              go_roundw
              case rel => exact ⟨k + 1, by go_num, by omega, by rw [e1]; exact hown2.out, hn2⟩
              case measure => simp [intOf]; omega
            · have hkb : ((k : Int) == (i : Int)) = false := by simp; omega
              have e1 := Lib.hid (minL_next Gb Go C i N k hke)
              have e2 : cntN i (k + 1) = cntN i k + 1 := by unfold cntN; split <;> split <;> omega
              have k0 := (hn2.out.cell (lt_of_cell c0)).trans c0
              have d0 := (hn2.out.cell (Nat.lt_of_lt_of_le hbw hwl)).trans ((hnw0.out.cell hbw).trans (hout.out k hkl))
              have hck := (hrow.out k hkl).2.2.2
              have e3 := Lib.hid e2
              have hke2 := Lib.hid hke
              obtain ⟨cn, hcn⟩ : ∃ cn, Hid (cn = cntN i k) := ⟨_, rfl⟩
              obtain ⟨ls, hls⟩ : ∃ ls, Hid (ls = minL Gb Go C i N (cntN i k)) := ⟨_, rfl⟩
              rw [← hls.out, ← hcn.out] at hown
              rw [← hcn.out] at hcl
              have hck1 := hck.1
              have hck2 := hck.2
              have a2 : (1 : Int) ≤ (N : Int) := by omega
              have hwl2 := hn2.out.size
              clear hke e2 k0 hck
              go_wp2_with (at_builtin; (refine wpList_append_own _ rfl _ _ 53 rfl w1.heap.size 29 i1 _ 1 24 Try.underlying53 hj0 hy0 hy1 hy2 rfl (by decide) _ cn ls rfl (hown.alloc _) ⟨wr.heap.size, 0, none⟩ 1 1 [.slice (some ⟨Gb k, Go k + 1, none⟩) (N - 1) (C k - 1)] rfl rfl (World.news_of_block (cs := #[.slice _ _ _]) (t := 29) (fr := (0, 0)) (heap_alloc_new wr _)) (by simp [Value.oneCell']) (by unfold maxLen; omega) (by omega) (by simp; omega) ?_); intro v4 w4 hown4 hgrow4 hnil4)
              have hgA : (wr.alloc (.cells #[.slice (some ⟨Gb k, Go k + 1, none⟩) (N - 1) (C k - 1)] 29)).grownBy w4 u5.ownBlock := hgrow4
              have hN4 : Hid (New w1 w4) := hn2.out.append' hgA (fun g hg => (hown.lt _ hg).1)
              have hown5 : Hid (w4.ownsRow w1.heap.size 29 1 v4 (cntN i (k + 1)) (minL Gb Go C i N (cntN i (k + 1)))) := by
                rw [e1.out, e3.out, ← hls.out, ← hcn.out]
                exact hown4
              clear hown4 hgrow4 hnil4 hgA hown
              go_roundw
              case rel => exact ⟨k + 1, by go_num, by omega, hown5.out, hN4⟩
              case measure => simp [intOf]; omega
          · have hkn : k = N := by omega
            have hki : ¬ (k : Int) < (N : Int) := by omega
            have hcd : cntN i k = d := by have := hNd.out; unfold cntN; rw [if_neg (by omega)]; omega
            rw [hcd] at hown
            obtain ⟨A3, c3, rfl, hdc, hmx, hA3, hc3⟩ := own_open hown
            have hrd : Hid (∀ w', New wr w' → RdM .i64 w' A3 d (fun r => some ⟨Gb (skN i r), Go (skN i r) + 1, none⟩) (fun _ => d) (fun r => C (skN i r) - 1) (fun r c => ((mnrN i Z r c : Nat) : Int))) := fun w' hn => by
              have hsk : ∀ r, r < d → skN i r < N := fun r hr => by have := hNd.out; unfold skN; split <;> omega
              have hww := (hnw0.out.next hn2.out).next hn
              refine ⟨by unfold maxLen; have := hNd.out; omega, fun h0 => ?_, fun r hr => ⟨⟨by show d ≤ maxLen; unfold maxLen; have := hNd.out; omega, fun h0 => ⟨_, _, rfl, ?_, fun j (hj : j < d) => ?_⟩⟩, ?_, ?_⟩⟩
              · obtain ⟨g, rfl, _, hg⟩ := hA3 h0
                refine ⟨g, 0, rfl, Nat.lt_of_lt_of_le hg hn.size, fun r hr => ?_⟩
                have := hc3 g rfl r (.slice (some ⟨Gb (skN i r), Go (skN i r) + 1, none⟩) (N - 1) (C (skN i r) - 1)) (by simp [minL, hr])
                rw [show N - 1 = d by have := hNd.out; omega] at this
                simpa using (hn.cell hg).trans this
              · exact Nat.lt_of_lt_of_le (hrow.out _ (hsk r hr)).2.1 hww.size
              · have h1 := (hrow.out _ (hsk r hr)).2.2.1 (j + 1) (by have := hNd.out; omega)
                rw [show Go (skN i r) + 1 + j = Go (skN i r) + (j + 1) by omega]
                exact (hww.cell (hrow.out _ (hsk r hr)).2.1).trans h1
              · have h1 := (hrow.out _ (hsk r hr)).2.2.2.1
                have := hNd.out
                show d ≤ C (skN i r) - 1
                omega
              · have h1 := (hrow.out _ (hsk r hr)).2.2.2.2
                show C (skN i r) - 1 ≤ maxLen
                omega
            obtain ⟨dt, hdt⟩ : ∃ dt, Hid (dt = detN d (mnrN i Z)) := ⟨_, rfl⟩
            have hdl : dt < 256 := by rw [hdt.out]; exact detN_lt _ _ (hmb.out i)
            have hcall : Hid (∀ w', New wr w' → Calls Try.prog 50 #[.slice A3 d c3] w' fun e w'' => e = .returned (.int .i64 dt) ∧ New w' w'') := fun w' hn => by
              rw [hdt.out]
              exact hih.out A3 c3 _ _ (mnrN i Z) w' (hrd.out w' hn) (hmb.out i)
            obtain ⟨v, hv⟩ : ∃ v, Hid (v = mul z dt) := ⟨_, rfl⟩
            have hvl : v < 256 := by rw [hv.out]; exact mul_lt _ _ hzl
            have hxor := i64_xor_nat s v (by omega) (by omega)
            have htm : Hid (∀ w, Calls Try.prog 25 #[.int .i64 z, .int .i64 dt] w fun e w' => e = .returned (.int .i64 v) ∧ New w w') := fun w => (mulOf_any z dt hzl hdl w).mono fun e w' h => ⟨by rw [hv.out]; exact h.1, by rw [← h.2]; exact New.refl w⟩
            have hs2 : s ^^^ v < 256 := xor_lt8 hs hvl
            have hsx2 : Hid (s ^^^ v = xs (i + 1) F) := by
              show _ = xs i F ^^^ F i
              rw [hsx.out, hv.out, hdt.out, hz.out, hF.out]
            have k0 := (hn2.out.cell (lt_of_cell c0)).trans c0
            have k1 := (hn2.out.cell (lt_of_cell c1)).trans c1
            have q0 := NewW.keep k0
            have q1 := NewW.keep k1
            clear hown hA3 hc3 hkn hkl c0 c1 hrd hcd
            go_wp2
            (refine wp_region_quiet_new (by kernel_rfl) (by kernel_rfl) ?_; (repeat (first | go_big_quiet_step (first | (go_at_call 50; exact NewW.call _ (hcall.out _ (NewW.is _))) | (go_at_call 25; exact NewW.call _ (htm.out _))) | quiet_step (first | (go_at_call 50; exact NewW.call _ (hcall.out _ (NewW.is _))) | (go_at_call 25; exact NewW.call _ (htm.out _))))); refine wpQuiet_nil ?_; rintro W4 ⟨⟨_, hn_W4⟩, rfl⟩)
            go_wp2
            go_roundw
            case rel => exact ⟨i + 1, s ^^^ v, by go_num, rfl, by omega, hs2, hsx2, (hnw0.out.next hn2.out).next hn_W4⟩
            case measure => simp [intOf]; omega
    · have hin : i = N := by omega
      subst hin
      go_wp2
      go_ret
      exact ⟨by rw [hval.out, ← hsx.out]; rfl, hnw⟩
theorem det_any : ∀ n, 1 ≤ n → n ≤ 8 → DetC n
  | 0, h, _ => absurd h (by omega)
  | 1, _, _ => det_one
  | n + 2, _, h => det_step (n + 2) (n + 1) rfl (by omega) h (det_any (n + 1) (by omega) (by omega))
end Go.Proofs.Ytjmjnodaohbpfaa.mat
