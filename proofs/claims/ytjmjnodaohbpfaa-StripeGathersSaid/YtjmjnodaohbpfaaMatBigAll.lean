import Derived.Test.YtjmjnodaohbpfaaMatPlain
import Derived.Test.YtjmjnodaohbpfaaMatSwept
import Derived.Test.YtjmjnodaohbpfaaMatBeside
import Derived.Deep.RegionHeld3
import Derived.Deep.AppendLies
import Derived.BigRegion
/-
  Contract of the reference's det.
-/
namespace Go.Proofs.Ytjmjnodaohbpfaa.mat
open Go.ChangeShapes Go.WideShapes Go.ChangeAt Go.RowKit Go.Proofs.Ytjmjnodaohbpfaa.kit Go.Proofs.Ytjmjnodaohbpfaa.gf Go.Proofs.Ytjmjnodaohbpfaa.fld Go.Deep
set_option linter.unusedVariables false

def DetC (n : Nat) : Prop := ∀ (A : Option Addr) (c : Nat) (R : Nat → Option Addr) (C : Nat → Nat) (Z : Nat → Nat → Nat) (w : World), RdM .i64 w A n R (fun _ => n) C (fun i k => (Z i k : Nat)) → bytesP Z n n →
    Calls Try.prog 50 #[.slice A n c] w fun e w' => e = .returned (.int .i64 (detN n Z : Nat)) ∧ New w w'
def skN (i r : Nat) : Nat := if r < i then r else r + 1
/-- the rows of a minor -/
def minL (Gb Go C : Nat → Nat) (i N cnt : Nat) : List Value := (List.range cnt).map fun r => .slice (some ⟨Gb (skN i r), Go (skN i r) + 1, none⟩) (N - 1) (C (skN i r) - 1)
def cntN (i k : Nat) : Nat := if k ≤ i then k else k - 1
theorem minL_next (Gb Go C : Nat → Nat) (i N k : Nat) (h : k ≠ i) : minL Gb Go C i N (cntN i (k + 1)) = minL Gb Go C i N (cntN i k) ++ [.slice (some ⟨Gb k, Go k + 1, none⟩) (N - 1) (C k - 1)] := by
  have h1 : cntN i (k + 1) = cntN i k + 1 := by unfold cntN; split <;> split <;> omega
  have h2 : skN i (cntN i k) = k := by unfold skN cntN; split <;> split <;> omega
  unfold minL
  rw [h1, List.range_succ, List.map_append, List.map_singleton, h2]
theorem minL_len (Gb Go C : Nat → Nat) (i N cnt : Nat) : (minL Gb Go C i N cnt).length = cnt := by simp [minL]
theorem det_one : DetC 1 := fun A c R C Z w h hb => by
  obtain ⟨b, off, rfl, hbw, hcs⟩ := h.2.1 (by omega)
  obtain ⟨b2, off2, hR, hbw2, hcs2⟩ := (h.2.2 0 (by omega)).1.2 (by show 0 < 1; omega)
  have z0 := hcs 0 (by omega)
  have z1 := hcs2 0 (by show 0 < 1; omega)
  rw [hR] at z0
  simp at z0 z1
  have hv : Hid (detN 1 Z = Z 0 0) := by
    show 0 ^^^ mul (Z 0 0) 1 = _
    rw [gf.mul_one, Nat.zero_xor]
  clear hcs hcs2 hb h hR
  go_enter Try.func50, Try.ntmps50
  go_wp2
  go_ret
  exact ⟨by rw [hv.out]; rfl, New.refl w⟩
set_option maxRecDepth 100000 in
set_option maxHeartbeats 4000000 in
theorem det_step (N d : Nat) (hN : N = d + 1) (h2 : 2 ≤ N) (h8 : N ≤ 8) (ih : DetC d) : DetC N := fun A c R C Z w h hb => by
  obtain ⟨b, off, rfl, hbw, hcs⟩ := h.2.1 (by omega)
  have hrow : ∃ Gb Go : Nat → Nat, Hid (∀ i, i < N → R i = some ⟨Gb i, Go i, none⟩ ∧ Gb i < w.heap.size ∧ (∀ k, k < N → w.cell? ⟨Gb i, Go i + k, none⟩ = some (.int .i64 (Z i k : Nat))) ∧ N ≤ C i ∧ C i ≤ maxLen) :=
by
    have key : ∀ i, ∃ p : Nat × Nat, i < N → R i = some ⟨p.1, p.2, none⟩ ∧ p.1 < w.heap.size ∧ (∀ k, k < N → w.cell? ⟨p.1, p.2 + k, none⟩ = some (.int .i64 (Z i k : Nat))) ∧ N ≤ C i ∧ C i ≤ maxLen := fun i => by
      by_cases hi : i < N
      · obtain ⟨h1, h3, h4⟩ := h.2.2 i hi
        obtain ⟨b2, off2, hR, hbw2, hcs2⟩ := h1.2 (by show 0 < N; omega)
        exact ⟨(b2, off2), fun _ => ⟨hR, hbw2, hcs2, h3, h4⟩⟩
      · exact ⟨(0, 0), fun h => absurd h hi⟩
    obtain ⟨p, hp⟩ := Classical.axiomOfChoice key
    exact ⟨fun i => (p i).1, fun i => (p i).2, hp⟩
  obtain ⟨Gb, Go, hrow⟩ := hrow
  have hout : Hid (∀ i, i < N → w.cell? ⟨b, off + i, none⟩ = some (.slice (some ⟨Gb i, Go i, none⟩) N (C i))) := fun i hi => by rw [hcs i hi, (hrow.out i hi).1]
  have hb0 := Lib.hid hb
  have hih := Lib.hid ih
  have hNd := Lib.hid hN
  obtain ⟨F, hF⟩ : ∃ F : Nat → Nat, Hid (F = fun i => mul (Z i 0) (detN d (mnrN i Z))) := ⟨_, rfl⟩
  have hval : Hid (detN N Z = xs N F) := by rw [hF.out, hNd.out]; rfl
  have hmb : Hid (∀ i, bytesP (mnrN i Z) d d) := fun i => mnrN_bytes (by rw [← hNd.out]; exact hb0.out)
  obtain ⟨i1, hj0, hy0, hy1, hy2⟩ := info_parts info30
  clear hcs h hb ih hN
  have hne : ((N : Int) == 1) = false := by simp; omega
  go_enter Try.func50, Try.ntmps50
  go_wp2_with fail
  go_loopw [17, 3] (fun x o wr => ∃ i s : Nat, x = .int .i64 i ∧ o = .int .i64 s ∧ i ≤ N ∧ s < 256 ∧ Hid (s = xs i F) ∧ New w wr) (fun x _ _ => N - (intOf x).toNat)
  case atStart => exact ⟨0, 0, rfl, rfl, Nat.zero_le _, by omega, rfl, New.refl w⟩
  case round =>
    obtain ⟨i, s, rfl, rfl, hi, hs, hsx, hnw⟩ := hrel
    obtain ⟨w1, rfl⟩ : ∃ w1, w1 = wr := ⟨wr, rfl⟩
    by_cases hlt : i < N
    · have hii : (i : Int) < (N : Int) := by omega
      have a0 : (0 : Int) ≤ (i : Int) := by omega
      have hnw0 := Lib.hid hnw
      have c0 := (hnw0.out.cell hbw).trans (hout.out i hlt)
      have c1 := (hnw0.out.cell (hrow.out i hlt).2.1).trans ((hrow.out i hlt).2.2.1 0 (by omega))
      simp at c1
      obtain ⟨z, hz⟩ : ∃ z, Hid (z = Z i 0) := ⟨_, rfl⟩
      rw [← hz.out] at c1
      have hzl : z < 256 := by rw [hz.out]; exact hb0.out i 0 hlt (by omega)
      have hN0 : (0 : Int) < (N : Int) := by omega
      clear hnw
      by_cases hz0 : z = 0
      · have hF0 : F i = 0 := by rw [hF.out]; show mul (Z i 0) _ = 0; rw [← hz.out, hz0, gf.zero_mul]
        have hsx2 : Hid (s = xs (i + 1) F) := by show s = xs i F ^^^ F i; rw [hF0, Nat.xor_zero]; exact hsx.out
        rw [hz0] at c1
        clear hz0 hz hF0 hsx
        go_wp2
        go_roundw
        case rel => exact ⟨i + 1, s, by go_num, rfl, by omega, hs, hsx2, hnw0.out⟩
        case measure => simp [intOf]; omega
      · have hzb : (((z : Nat) : Int) == 0) = false := by simpa using hz0
        clear hz0
        have hwl := hnw0.out.size
        go_wp2_with fail
        go_loopw [29, 5] (fun x o w2 => ∃ k : Nat, x = .int .i64 k ∧ k ≤ N ∧ w2.ownsRow w1.heap.size 29 1 o (cntN i k) (minL Gb Go C i N (cntN i k)) ∧ Hid (New w1 w2)) (fun x _ _ => N - (intOf x).toNat)
        case atStart => exact ⟨0, rfl, Nat.zero_le _, World.ownsRow_nil _ _ _ _, New.refl w1⟩
        case round =>
          obtain ⟨k, rfl, hk, hown, hn2⟩ := hrel
          by_cases hkl : k < N
          · have hki : (k : Int) < (N : Int) := by omega
            have a1 : (0 : Int) ≤ (k : Int) := by omega
            have hcl : cntN i k ≤ 8 := by unfold cntN; split <;> omega
            by_cases hke : k = i
            · have e1 : cntN i (k + 1) = cntN i k := by rw [hke]; unfold cntN; rw [if_neg (by omega), if_pos (Nat.le_refl _)]; omega
              have hown2 := Lib.hid hown
              clear hown
              subst hke
              go_wp2
              go_roundw
              case rel => exact ⟨k + 1, by go_num, by omega, by rw [e1]; exact hown2.out, hn2⟩
              case measure => simp [intOf]; omega
            · have hkb : ((k : Int) == (i : Int)) = false := by simp; omega
              have e1 := Lib.hid (minL_next Gb Go C i N k hke)
              have e2 : cntN i (k + 1) = cntN i k + 1 := by unfold cntN; split <;> split <;> omega
              have k0 := (hn2.out.cell (lt_of_cell c0)).trans c0
              have d0 := (hn2.out.cell (Nat.lt_of_lt_of_le hbw hwl)).trans ((hnw0.out.cell hbw).trans (hout.out k hkl))
              have hck := (hrow.out k hkl).2.2.2
              have e3 := Lib.hid e2
              have hke2 := Lib.hid hke
              obtain ⟨cn, hcn⟩ : ∃ cn, Hid (cn = cntN i k) := ⟨_, rfl⟩
              obtain ⟨ls, hls⟩ : ∃ ls, Hid (ls = minL Gb Go C i N (cntN i k)) := ⟨_, rfl⟩
              rw [← hls.out, ← hcn.out] at hown
              rw [← hcn.out] at hcl
              have hck1 := hck.1
              have hck2 := hck.2
              have a2 : (1 : Int) ≤ (N : Int) := by omega
              have hwl2 := hn2.out.size
              clear hke e2 k0 hck
              go_wp2_with (at_builtin; (refine wpList_append_own _ rfl _ _ 53 rfl w1.heap.size 29 i1 _ 1 24 Try.underlying53 hj0 hy0 hy1 hy2 rfl (by decide) _ cn ls rfl (hown.alloc _) ⟨wr.heap.size, 0, none⟩ 1 1 [.slice (some ⟨Gb k, Go k + 1, none⟩) (N - 1) (C k - 1)] rfl rfl (World.news_of_block (cs := #[.slice _ _ _]) (t := 29) (fr := (0, 0)) (heap_alloc_new wr _)) (by simp [Value.oneCell']) (by unfold maxLen; omega) (by omega) (by simp; omega) ?_); intro v4 w4 hown4 hgrow4 hnil4)
              have hgA : (wr.alloc (.cells #[.slice (some ⟨Gb k, Go k + 1, none⟩) (N - 1) (C k - 1)] 29)).grownBy w4 u5.ownBlock := hgrow4
              have hN4 : Hid (New w1 w4) := hn2.out.append' hgA (fun g hg => (hown.lt _ hg).1)
              have hown5 : Hid (w4.ownsRow w1.heap.size 29 1 v4 (cntN i (k + 1)) (minL Gb Go C i N (cntN i (k + 1)))) := by
                rw [e1.out, e3.out, ← hls.out, ← hcn.out]
                exact hown4
              clear hown4 hgrow4 hnil4 hgA hown
              go_roundw
              case rel => exact ⟨k + 1, by go_num, by omega, hown5.out, hN4⟩
              case measure => simp [intOf]; omega
          · have hkn : k = N := by omega
            have hki : ¬ (k : Int) < (N : Int) := by omega
            have hcd : cntN i k = d := by have := hNd.out; unfold cntN; rw [if_neg (by omega)]; omega
            rw [hcd] at hown
            obtain ⟨A3, c3, rfl, hdc, hmx, hA3, hc3⟩ := own_open hown
            have hrd : Hid (∀ w', New wr w' → RdM .i64 w' A3 d (fun r => some ⟨Gb (skN i r), Go (skN i r) + 1, none⟩) (fun _ => d) (fun r => C (skN i r) - 1) (fun r c => ((mnrN i Z r c : Nat) : Int))) := fun w' hn => by
              have hsk : ∀ r, r < d → skN i r < N := fun r hr => by have := hNd.out; unfold skN; split <;> omega
              have hww := (hnw0.out.next hn2.out).next hn
              refine ⟨by unfold maxLen; have := hNd.out; omega, fun h0 => ?_, fun r hr => ⟨⟨by show d ≤ maxLen; unfold maxLen; have := hNd.out; omega, fun h0 => ⟨_, _, rfl, ?_, fun j (hj : j < d) => ?_⟩⟩, ?_, ?_⟩⟩
              · obtain ⟨g, rfl, _, hg⟩ := hA3 h0
                refine ⟨g, 0, rfl, Nat.lt_of_lt_of_le hg hn.size, fun r hr => ?_⟩
                have := hc3 g rfl r (.slice (some ⟨Gb (skN i r), Go (skN i r) + 1, none⟩) (N - 1) (C (skN i r) - 1)) (by simp [minL, hr])
                rw [show N - 1 = d by have := hNd.out; omega] at this
                simpa using (hn.cell hg).trans this
              · exact Nat.lt_of_lt_of_le (hrow.out _ (hsk r hr)).2.1 hww.size
              · have h1 := (hrow.out _ (hsk r hr)).2.2.1 (j + 1) (by have := hNd.out; omega)
                rw [show Go (skN i r) + 1 + j = Go (skN i r) + (j + 1) by omega]
                exact (hww.cell (hrow.out _ (hsk r hr)).2.1).trans h1
              · have h1 := (hrow.out _ (hsk r hr)).2.2.2.1
                have := hNd.out
                show d ≤ C (skN i r) - 1
                omega
              · have h1 := (hrow.out _ (hsk r hr)).2.2.2.2
                show C (skN i r) - 1 ≤ maxLen
                omega
            obtain ⟨dt, hdt⟩ : ∃ dt, Hid (dt = detN d (mnrN i Z)) := ⟨_, rfl⟩
            have hdl : dt < 256 := by rw [hdt.out]; exact detN_lt _ _ (hmb.out i)
            have hcall : Hid (∀ w', New wr w' → Calls Try.prog 50 #[.slice A3 d c3] w' fun e w'' => e = .returned (.int .i64 dt) ∧ New w' w'') := fun w' hn => by
              rw [hdt.out]
              exact hih.out A3 c3 _ _ (mnrN i Z) w' (hrd.out w' hn) (hmb.out i)
            obtain ⟨v, hv⟩ : ∃ v, Hid (v = mul z dt) := ⟨_, rfl⟩
            have hvl : v < 256 := by rw [hv.out]; exact mul_lt _ _ hzl
            have hxor := i64_xor_nat s v (by omega) (by omega)
            have htm : Hid (∀ w, Calls Try.prog 25 #[.int .i64 z, .int .i64 dt] w fun e w' => e = .returned (.int .i64 v) ∧ New w w') := fun w => (mulOf_any z dt hzl hdl w).mono fun e w' h => ⟨by rw [hv.out]; exact h.1, by rw [← h.2]; exact New.refl w⟩
            have hs2 : s ^^^ v < 256 := xor_lt8 hs hvl
            have hsx2 : Hid (s ^^^ v = xs (i + 1) F) := by
              show _ = xs i F ^^^ F i
              rw [hsx.out, hv.out, hdt.out, hz.out, hF.out]
            have k0 := (hn2.out.cell (lt_of_cell c0)).trans c0
            have k1 := (hn2.out.cell (lt_of_cell c1)).trans c1
            have q0 := NewW.keep k0
            have q1 := NewW.keep k1
            clear hown hA3 hc3 hkn hkl c0 c1 hrd hcd
            go_wp2
            (refine wp_region_quiet_new (by kernel_rfl) (by kernel_rfl) ?_; (repeat (first | go_big_quiet_step (first | (go_at_call 50; exact NewW.call _ (hcall.out _ (NewW.is _))) | (go_at_call 25; exact NewW.call _ (htm.out _))) | quiet_step (first | (go_at_call 50; exact NewW.call _ (hcall.out _ (NewW.is _))) | (go_at_call 25; exact NewW.call _ (htm.out _))))); refine wpQuiet_nil ?_; rintro W4 ⟨⟨_, hn_W4⟩, rfl⟩)
            go_wp2
            go_roundw
            case rel => exact ⟨i + 1, s ^^^ v, by go_num, rfl, by omega, hs2, hsx2, (hnw0.out.next hn2.out).next hn_W4⟩
            case measure => simp [intOf]; omega
    · have hin : i = N := by omega
      subst hin
      go_wp2
      go_ret
      exact ⟨by rw [hval.out, ← hsx.out]; rfl, hnw⟩
theorem det_any : ∀ n, 1 ≤ n → n ≤ 8 → DetC n
  | 0, h, _ => absurd h (by omega)
  | 1, _, _ => det_one
  | n + 2, _, h => det_step (n + 2) (n + 1) rfl (by omega) h (det_any (n + 1) (by omega) (by omega))
end Go.Proofs.Ytjmjnodaohbpfaa.mat

/-
  Contract: ownMatrix of the reference, the rows' room told too.
-/
namespace Go.Proofs.Ytjmjnodaohbpfaa.mat
open Go.ChangeShapes Go.WideShapes Go.ChangeAt Go.RowKit Go.Proofs.Ytjmjnodaohbpfaa.kit Go.Proofs.Ytjmjnodaohbpfaa.gf Go.Deep
set_option linter.unusedVariables false

/-- a block of numbers has c places -/
def CapR (w : World) (g m c : Nat) : Prop := m ≤ c ∧ c ≤ maxLen ∧ ∃ cs : Array Value, w.heap[g]? = some (.cells cs 3 (0, 0)) ∧ cs.size = c
section
variable {w w' : World} {g m c : Nat}
theorem CapR.lt (h : CapR w g m c) : g < w.heap.size := by obtain ⟨_, _, cs, h1, _⟩ := h; exact Blk.lt (t := 3) h1
theorem CapR.block (h : CapR w g m c) (hb : w'.heap[g]? = w.heap[g]?) : CapR w' g m c := by obtain ⟨h1, h2, cs, h3, h4⟩ := h; exact ⟨h1, h2, cs, hb.trans h3, h4⟩
theorem CapR.new (h : CapR w g m c) (hn : New w w') : CapR w' g m c := h.block (hn.block g h.lt)
theorem CapR.grown (h : CapR w g m c) {row : Option Nat} (hg : w.grownBy w' row) (hr : row ≠ some g) : CapR w' g m c := h.block (hg.block g h.lt (Ne.symm hr))
theorem CapR.of_own {base : Nat} {xs : List Value} (h : w.ownsRow base 3 1 (.slice (some ⟨g, 0, none⟩) m c) m xs) : CapR w g m c := by
  rcases h.2 with ⟨h0, _⟩ | ⟨g', cap, cur, hv, hb, hg, h1, h2, h3, h4⟩
  · cases h0
  · cases hv
    exact ⟨h1, h2, cur, hg, by simpa using h3⟩
theorem CapR.more {w0 w1 w2 : World} {k g3 c3 : Nat} {G C : Nat → Nat} {Z : Nat → Nat → Nat} {v : Value} {o : Obj} (h : RowsAt w0 k m G C Z w v) (hc : ∀ j, j < k → CapR w (G j) m (C j)) (hn : New w w1) (hr : CapR w1 g3 m c3)
    (hgr : (w1.alloc o).grownBy w2 v.ownBlock) (hne : v.ownBlock ≠ some g3) : ∀ j, j < k + 1 → CapR w2 (if j = k then g3 else G j) m (if j = k then c3 else C j) := fun j hj => by
  by_cases e : j = k
  · rw [if_pos e, if_pos e]
    exact (hr.new ((New.refl _).alloc o)).grown hgr hne
  · rw [if_neg e, if_neg e]
    exact ((hc j (by omega)).new (hn.alloc o)).grown hgr ((h.row j (by omega)).1.ne_own h.own)
end
def OwnPostC (n m : Nat) (Z : Nat → Nat → Nat) (w : World) (e : Ending) (w' : World) : Prop :=
  ∃ o cap G C, e = .returned (.slice (some ⟨o, 0, none⟩) n cap) ∧ n ≤ cap ∧ Mx w' w.heap.size w'.heap.size o n m G C Z ∧ New w w' ∧ ∀ i, i < n → CapR w' (G i) m (C i)
set_option maxRecDepth 100000 in
set_option maxHeartbeats 1000000 in
theorem ownMatrix_cap (A : Option Addr) (n c m : Nat) (R : Nat → Option Addr) (L C : Nat → Nat) (M : Nat → Nat → Int) (w : World) (h : RdM .i64 w A n R L C M) (hm : mayM n L M = true) (hL : L 0 = m) :
    Calls Try.prog 51 #[.slice A n c] w (OwnPostC n m (fun i k => elN M i k) w) := by
  obtain ⟨hn1, hn8, hrow⟩ := mayM_out hm
  have h0 := Lib.hid h
  have hrow0 := Lib.hid hrow
  have hm1 : 1 ≤ m := by have := (hrow 0 (by omega)).2.1; omega
  have hm8 : m ≤ 8 := by have := (hrow 0 (by omega)).2.2.1; omega
  have hLr : Hid (∀ i, i < n → L i = m) := fun i hi => by rw [(hrow i hi).1, hL]
  obtain ⟨i0, hi0, hz0, hz1, hz2⟩ := info_parts infoInt
  obtain ⟨i1, hj0, hy0, hy1, hy2⟩ := info_parts info30
  clear h hrow hm hL
  go_enter Try.func51, Try.ntmps51
  go_wp2
  go_loopw [8, 3] (fun x s wr => ∃ (i : Nat) (sv : Value) (G C' : Nat → Nat), sv = s ∧ x = .int .i64 i ∧ i ≤ n ∧ Hid (RowsAt w i m G C' (fun i k => elN M i k) wr sv) ∧ Hid (∀ j, j < i → CapR wr (G j) m (C' j))) (fun x _ _ => n - (intOf x).toNat)
  case atStart => exact ⟨0, _, fun _ => 0, fun _ => 0, rfl, rfl, by omega, RowsAt.start w, fun j hj => absurd hj (by omega)⟩
  case round =>
    obtain ⟨i, sv, G, C', rfl, rfl, hi, hrs, hcp⟩ := hrel
    by_cases hlt : i < n
    · have hnw := hrs.out.nw
      obtain ⟨b, off, rfl, hb, hcs⟩ := h0.out.2.1 (by omega)
      have ci := (hnw.cell hb).trans (hcs i hlt)
      obtain ⟨hri, _, _⟩ := h0.out.2.2 i hlt
      obtain ⟨br, offr, hRe, hbr, hcr⟩ := hri.2 (by have := hLr.out i hlt; omega)
      rw [hRe, hLr.out i hlt] at ci
      obtain ⟨f, hf⟩ : ∃ f : Nat → Nat, Hid (f = fun k => elN M i k) := ⟨_, rfl⟩
      have hcr2 : ∀ j, j < m → wr.cell? ⟨br, offr + j, none⟩ = some (.int .i64 (f j : Nat)) := fun j hj => by
        rw [(hnw.cell hbr).trans (hcr j (by have := hLr.out i hlt; omega)), hf.out]
        have := allE_out (hrow0.out i hlt).2.2.2 j (by have := hLr.out i hlt; omega)
        unfold elP at this
        congr 2
        show M i j = ((M i j).toNat : Int)
        omega
      have hsrc := Lib.hid (rd_cells (A := none) hcr2)
      have hnilr := World.ownsRow_nil wr wr.heap.size 3 1
      have hown := hrs.out.own
      have hii : (i : Int) < (n : Int) := by omega
      have hone := Lib.hid (rowL_one f m)
      have hlen : Hid ((rowL f m).length = m) := rowL_len f m
      clear hcs hcr hcr2 hri hRe hbr
      go_wp2_with (first
        | (at_builtin
           refine wpList_append_own _ rfl _ _ 29 rfl wr.heap.size 3 i0 _ 1 8 Try.underlying29 hi0 hz0 hz1 hz2 rfl (by decide) (Value.slice none 0 0) 0 [] rfl hnilr ⟨br, offr, none⟩ m (C i) (rowL f m) rfl (by rw [hlen.out]; omega) hsrc.out hone.out (by unfold maxLen; omega) (by omega) (Nat.le_refl _) ?_
           intro v3 w3 hown3 hgrow hnil
           obtain ⟨g3, c3, rfl, hg3a, hg3b⟩ := hown3.form (by omega))
        | (at_builtin
           refine wpList_append_own _ rfl _ _ 53 rfl w.heap.size 29 i1 _ 1 24 Try.underlying53 hj0 hy0 hy1 hy2 rfl (by decide) _ i (rowsC G C' m i) rfl ((own_new hown (New.of_grown hgrow)).alloc _) ⟨w3.heap.size, 0, none⟩ 1 1 [.slice (some ⟨g3, 0, none⟩) m c3] rfl rfl (World.news_of_block (cs := #[.slice _ _ _]) (t := 29) (fr := (0, 0)) (heap_alloc_new w3 _)) (by simp [Value.oneCell']) (by unfold maxLen; omega) (by omega) (by have := hnw.size; have := (New.of_grown hgrow).size; simp; omega) ?_
           intro v4 w4 hown4 hgrow4 hnil4))
      have hgA : wr.grownBy w3 none := hgrow
      rw [List.nil_append, Nat.zero_add] at hown3
      have hrv : RowV w3 g3 m f := RowV.of_own hown3
      have hcv : CapR w3 g3 m c3 := CapR.of_own hown3
      rw [hf.out] at hrv
      have hc3 : m ≤ c3 ∧ c3 ≤ maxLen := by obtain ⟨_, _, he, hle, hlm, _⟩ := own_open hown3; cases he; exact ⟨hle, hlm⟩
      have hrs2 := Lib.hid (hrs.out.more (New.of_grown hgA) hg3a hrv hown4 hgrow4 hc3)
      have hcp2 : Hid (∀ j, j < i + 1 → CapR w4 (if j = i then g3 else G j) m (if j = i then c3 else C' j)) := CapR.more hrs.out hcp.out (New.of_grown hgA) hcv hgrow4 (hrv.ne_own (own_new hown (New.of_grown hgA)))
      go_roundw
      case rel => exact ⟨i + 1, _, _, _, rfl, by go_num, by omega, hrs2.out, hcp2.out⟩
      case measure => simp [intOf]; omega
    · have hin : i = n := by omega
      subst hin
      have hii : ¬ (i : Int) < (i : Int) := by omega
      obtain ⟨o, cap, rfl, hcap, hmx⟩ := hrs.out.mx (by omega)
      have hpost : Hid (OwnPostC i m (fun i k => elN M i k) w (.returned (.slice (some ⟨o, 0, none⟩) i cap)) wr) := ⟨o, cap, G, C', rfl, hcap, hmx, hrs.out.nw, hcp.out⟩
      clear hmx
      go_wp2
      go_ret
      exact hpost.out
end Go.Proofs.Ytjmjnodaohbpfaa.mat

/-
  Contracts: the rank of a matrix, by the two texts.
-/
namespace Go.Proofs.Ytjmjnodaohbpfaa.mat
open Go.ChangeShapes Go.WideShapes Go.ChangeAt Go.RowKit Go.Proofs.Ytjmjnodaohbpfaa.kit Go.Proofs.Ytjmjnodaohbpfaa.gf Go.Deep
set_option linter.unusedVariables false

def rkVal (n : Nat) (L : Nat → Nat) (M : Nat → Nat → Int) : Int := if mayM n L M = true then ((stR (fun i k => elN M i k) n (L 0)).2 : Nat) else 0
def rkCode (n : Nat) (L : Nat → Nat) (M : Nat → Nat → Int) : Int := if mayM n L M = true then 0 else 4
theorem elN_bytes {n m : Nat} {L : Nat → Nat} {M : Nat → Nat → Int} (hm : mayM n L M = true) (hL : L 0 = m) : bytesP (fun i k => elN M i k) n m := fun i k hi hk => by
  have h1 := (mayM_out hm).2.2 i hi
  have := allE_out h1.2.2.2 k (by have := h1.1; omega)
  unfold elP at this
  show (M i k).toNat < 256
  omega
theorem besZ_bytes {n m more : Nat} {L : Nat → Nat} {M : Nat → Nat → Int} (hm : mayM n L M = true) (hL : L 0 = m) : bytesP (besZ M m more) n (m + more) := fun i k hi hk => by
  unfold besZ
  split
  · exact elN_bytes hm hL i k hi (by assumption)
  · split <;> omega
end Go.Proofs.Ytjmjnodaohbpfaa.mat

/-
  Contract of the reference's solved, up to four rows.
-/
namespace Go.Proofs.Ytjmjnodaohbpfaa.mat
open Go.ChangeShapes Go.WideShapes Go.ChangeAt Go.RowKit Go.Proofs.Ytjmjnodaohbpfaa.kit Go.Proofs.Ytjmjnodaohbpfaa.gf Go.Proofs.Ytjmjnodaohbpfaa.fld Go.Deep
set_option linter.unusedVariables false

theorem rdM_el {w : World} {A : Option Addr} {n m : Nat} {R : Nat → Option Addr} {L C : Nat → Nat} {M : Nat → Nat → Int} (h : RdM .i64 w A n R L C M) (hm : mayM n L M = true) (hL : L 0 = m) :
    RdM .i64 w A n R (fun _ => m) C (fun i k => (elN M i k : Nat)) := by
  obtain ⟨hn1, hn8, hrow⟩ := mayM_out hm
  have hLr : ∀ i, i < n → L i = m := fun i hi => by rw [(hrow i hi).1, hL]
  refine ⟨h.1, fun h0 => ?_, fun i hi => ?_⟩
  · obtain ⟨b, off, rfl, hb, hcs⟩ := h.2.1 h0
    exact ⟨b, off, rfl, hb, fun i hi => by rw [hcs i hi, hLr i hi]⟩
  · obtain ⟨⟨h1, h2⟩, h3, h4⟩ := h.2.2 i hi
    rw [hLr i hi] at h1 h2 h3
    refine ⟨⟨h1, fun h0 => ?_⟩, h3, h4⟩
    obtain ⟨b, off, hA, hb, hc⟩ := h2 h0
    refine ⟨b, off, hA, hb, fun j hj => ?_⟩
    rw [hc j hj]
    have := allE_out (hrow i hi).2.2.2 j (by rw [hLr i hi]; exact hj)
    unfold elP at this
    congr 2
    show M i j = ((M i j).toNat : Int)
    omega
theorem Mx.rd {w : World} {B H o n m : Nat} {G C : Nat → Nat} {Z : Nat → Nat → Nat} (h : Mx w B H o n m G C Z) (hc : ∀ i, i < n → m ≤ C i ∧ C i ≤ maxLen) (hn : n ≤ 8) (hm : m ≤ 16) :
    RdM .i64 w (some ⟨o, 0, none⟩) n (fun i => some ⟨G i, 0, none⟩) (fun _ => m) C (fun i k => (Z i k : Nat)) := by
  refine ⟨by unfold maxLen; omega, fun h0 => ⟨o, 0, rfl, ?_, fun i hi => by rw [Nat.zero_add]; exact h.cellO hi⟩, fun i hi => ⟨⟨(by unfold maxLen; omega : m ≤ maxLen), fun h0 => ⟨G i, 0, rfl, ?_, fun k hk => by rw [Nat.zero_add]; exact h.cell hi hk⟩⟩, (hc i hi).1, (hc i hi).2⟩⟩
  · obtain ⟨cs, h1, _⟩ := h.out
    exact Blk.lt (t := 29) h1
  · obtain ⟨cs, h1, _⟩ := h.row i hi
    exact Blk.lt (t := 3) h1
/-- what solved answers -/
def SolP (n : Nat) (x : Nat → Nat) (w : World) (e : Ending) (w' : World) : Prop :=
  ∃ g c, e = .returned (.slice (some ⟨g, 0, none⟩) n c) ∧ w.heap.size ≤ g ∧ w'.rowIs g 3 n (fun i => .int .i64 (x i : Nat)) ∧ New w w'
set_option maxRecDepth 100000 in
set_option maxHeartbeats 4000000 in
theorem solved_small (A V : Option Addr) (n c cv kk : Nat) (R : Nat → Option Addr) (L C : Nat → Nat) (M : Nat → Nat → Int) (w : World) (h : RdM .i64 w A n R L C M) (hm : mayM n L M = true) (hL : L 0 = n)
    (hr : (stR (fun i k => elN M i k) n n).2 = n) (hV : RdI .i64 w V n (fun i => (unN kk i : Nat))) (hk : kk < n) (h4 : n ≤ 4) :
    Calls Try.prog 31 #[.slice A n c, .slice V n cv] w (SolP n (fun i => invN (fun i k => elN M i k) n i kk) w) := by
  obtain ⟨hn1, hn8, _⟩ := mayM_out hm
  have hb : Hid (bytesP (fun i k => elN M i k) n n) := elN_bytes hm hL
  have hown := Lib.hid (fun w1 (hn : New w w1) => ownMatrix_cap A n c n R L C M w1 (h.new hn) hm hL)
  have hrd := Lib.hid (rdM_el h hm hL)
  obtain ⟨Z, hZ⟩ : ∃ Z : Nat → Nat → Nat, Z = fun i k => elN M i k := ⟨_, rfl⟩
  rw [← hZ] at hr hb hown ⊢
  have hrd2 : Hid (RdM .i64 w A n R (fun _ => n) C (fun i k => (Z i k : Nat))) := by rw [hZ]; exact hrd.out
  have hr0 := Lib.hid hr
  obtain ⟨bv, ov, rfl, hbv, hcv⟩ := hV.2 (by omega)
  have hcv0 := Lib.hid hcv
  obtain ⟨d, hd⟩ : ∃ d, Hid (d = detN n Z) := ⟨_, rfl⟩
  have hdl : d < 256 := by rw [hd.out]; exact detN_lt _ _ hb.out
  have hd0 : d ≠ 0 := by rw [hd.out]; exact det_ne h4 hb.out hr
  have hdet : Hid (Calls Try.prog 50 #[.slice A n c] w fun e w' => e = .returned (.int .i64 (d : Nat)) ∧ New w w') := by
    rw [hd.out]; exact det_any n hn1 hn8 A c R C Z w hrd2.out hb.out
  obtain ⟨x, hx⟩ : ∃ x : Nat → Nat, Hid (x = fun i => invN Z n i kk) := ⟨_, rfl⟩
  rw [← hx.out]
  have hmk := run_make_row' (P := Try.prog) 29 3 (.int .i64 0) 8 Try.underlying29 infoInt rfl .i64 .i64 n (by omega) (by omega)
  have h4i : (n : Int) ≤ 4 := by omega
  clear h hm hL hr hZ hrd hrd2 hV hcv
  go_enter Try.func31, Try.ntmps31
  go_wp2_with fail
  refine hdet.out.mono ?_
  rintro e W ⟨rfl, hnW⟩
  have hnW0 := Lib.hid hnW
  clear hnW hdet
  go_wp2_with fail
  go_loopw [32] (fun x0 wr => ∃ i : Nat, x0 = .int .i64 i ∧ i ≤ n ∧ Hid (New w wr) ∧ Hid (wr.rowIs W.heap.size 3 n (stF x 0 i))) (fun x0 _ => n - (intOf x0).toNat)
  case atStart => exact ⟨0, rfl, Nat.zero_le _, hnW0.out.alloc _, (World.rowIs_made W (.int .i64 0) n 3).congr fun j hj => by simp [stF]⟩
  case round =>
    obtain ⟨i, rfl, hi, hnw, hrw⟩ := hrel
    obtain ⟨w1, rfl⟩ : ∃ w1, w1 = wr := ⟨wr, rfl⟩
    by_cases hlt : i < n
    · have hii : (i : Int) < (n : Int) := by omega
      go_wp2_with fail
      refine (hown.out _ hnw.out).mono ?_
      rintro e W2 ⟨o, cap, G, C1, rfl, hcap, hmx, hnW2, hcp⟩
      have hcp0 : Hid (∀ j, j < n → n ≤ C1 j ∧ C1 j ≤ maxLen) := fun j hj => ⟨(hcp j hj).1, (hcp j hj).2.1⟩
      have hst0 : Hid (SSt w1 w1.heap.size W2.heap.size o n n G C1 Z W2) := ⟨hmx, hnW2, Nat.le_refl _⟩
      clear hmx hnW2 hcp
      obtain ⟨H, hH⟩ : ∃ H, Hid (H = W2.heap.size) := ⟨_, rfl⟩
      rw [← hH.out] at hst0
      have a0 : (0 : Int) ≤ (i : Int) := by omega
      go_wp2_with fail
      go_loopw [39] (fun x0 wr => ∃ k : Nat, x0 = .int .i64 k ∧ k ≤ n ∧ Hid (SSt w1 w1.heap.size H o n n G C1 (fun r q => if q = i ∧ r < k then unN kk r else Z r q) wr)) (fun x0 _ => n - (intOf x0).toNat)
      case atStart => exact ⟨0, rfl, Nat.zero_le _, hst0.out.congr fun r q _ _ => by rw [if_neg (by omega)]⟩
      case round =>
        clear hst0
        obtain ⟨k, rfl, hkn, hs⟩ := hrel
        by_cases hkl : k < n
        · have hki : (k : Int) < (n : Int) := by omega
          have hko := hs.out.mx.cellO hkl
          have hf := hs.out.mx.frozen hkl i
          have hold := hs.out.mx.cell hkl hlt
          have cv := (hs.out.bl.cell (p := ⟨bv, ov + k, none⟩) (Nat.lt_of_lt_of_le hbv hnw.out.size)).trans ((hnw.out.cell hbv).trans (hcv0.out k hkl))
          obtain ⟨u, hu⟩ : ∃ u, Hid (u = unN kk k) := ⟨_, rfl⟩
          rw [← hu.out] at cv
          have hs2 := Lib.hid ((hs.out.set hkl (k := i) u).congr (Y := fun r q => if q = i ∧ r < k + 1 then unN kk r else Z r q) fun r q _ _ => by
            by_cases h1 : r = k ∧ q = i
            · rw [if_pos h1, if_pos ⟨h1.2, by omega⟩, hu.out, h1.1]
            · rw [if_neg h1]
              by_cases h2 : q = i ∧ r < k
              · rw [if_pos h2, if_pos ⟨h2.1, by omega⟩]
              · rw [if_neg h2, if_neg (by omega)]).drew
          have a1 : (0 : Int) ≤ (k : Int) := by omega
          obtain ⟨ol, hol⟩ : ∃ ol : Nat, Hid (ol = if i = i ∧ k < k then unN kk k else Z k i) := ⟨_, rfl⟩
          rw [← hol.out] at hold
          clear hs hol
          go_wp2_with fail
          go_region
          go_wp2
          go_roundw
          case rel => exact ⟨k + 1, by go_num, by omega, hs2.out⟩
          case measure => simp [intOf]; omega
        · have hs2 : Hid (SSt w1 w1.heap.size H o n n G C1 (stcN Z i (unN kk)) wr) := hs.out.congr fun r q hr1 _ => by
            unfold stcN
            by_cases h1 : q = i
            · rw [if_pos ⟨h1, by omega⟩, if_pos h1]
            · rw [if_neg (fun h => h1 h.1), if_neg h1]
          have hki : ¬ (k : Int) < (n : Int) := by omega
          have hsb := stcN_bytes (i := i) (k := kk) hb.out
          obtain ⟨d2, hd2⟩ : ∃ d2, Hid (d2 = detN n (stcN Z i (unN kk))) := ⟨_, rfl⟩
          have hdl2 : d2 < 256 := by rw [hd2.out]; exact detN_lt _ _ hsb
          have hcall : Hid (Calls Try.prog 50 #[.slice (some ⟨o, 0, none⟩) n cap] wr fun e w' => e = .returned (.int .i64 (d2 : Nat)) ∧ New wr w') := by
            rw [hd2.out]; exact det_any n hn1 hn8 _ cap _ _ _ wr (hs2.out.mx.rd hcp0.out hn8 (by omega)) hsb
          have hxi : Hid (divN d2 d = x i) := by rw [hd2.out, hd.out, hx.out]; exact cramer_inv h4 hb.out hr0.out hlt hk
          have hnw2 : Hid (New w wr) := hnw.out.next hs2.out.bl
          have hrw2 : Hid (wr.rowIs W.heap.size 3 n (stF x 0 i)) := rowIs_new hrw.out hs2.out.bl
          clear hs hkl hsb
          go_wp2_with fail
          refine hcall.out.mono ?_
          rintro e W3 ⟨rfl, hn3⟩
          have hnw3 := Lib.hid (hnw2.out.next hn3)
          have hrw3 := Lib.hid (rowIs_new hrw2.out hn3)
          clear hn3 hcall
          go_wp2_with fail
          refine (divOf_any d2 d hdl2 hdl hd0 _).mono ?_
          rintro e W4 ⟨rfl, rfl⟩
          rw [hxi.out]
          have hz := hrw3.out.frozen i
          have hz2 := hrw3.out.cell hlt
          rw [stF_at] at hz2
          have hrw4 : Hid ((W3.setCell ⟨W.heap.size, i, none⟩ (.int .i64 ((x i : Nat) : Int))).rowIs W.heap.size 3 n (stF x 0 (i + 1))) := by
            have := hrw3.out.set i (.int .i64 ((x i : Nat) : Int))
            rw [stF_set] at this
            rw [← stF_next x i]
            exact this
          have hnw4 : Hid (New w (W3.setCell ⟨W.heap.size, i, none⟩ (.int .i64 ((x i : Nat) : Int)))) := hnw3.out.set hnW0.out.size _
          clear hnw2 hrw2 hs2 hcp0
          go_wp2
          go_roundw
          case rel => exact ⟨i + 1, by go_num, by omega, hnw4.out, hrw4.out⟩
          case measure => simp [intOf]; omega
    · have hin : i = n := by omega
      subst hin
      have hpost : Hid (SolP i x w (.returned (.slice (some ⟨W.heap.size, 0, none⟩) i i)) w1) := ⟨_, _, rfl, hnW0.out.size, hrw.out.congr fun j hj => by simp [stF, hj], hnw.out⟩
      have hii : ¬ (i : Int) < (i : Int) := by omega
      go_wp2
      go_ret
      exact hpost.out
end Go.Proofs.Ytjmjnodaohbpfaa.mat

/-
  A matrix in memory to whose rows a number is appended, one after the other.
-/
namespace Go.Proofs.Ytjmjnodaohbpfaa.mat
open Go.ChangeShapes Go.WideShapes Go.ChangeAt Go.RowKit Go.Proofs.Ytjmjnodaohbpfaa.kit Go.Proofs.Ytjmjnodaohbpfaa.gf Go.Deep
set_option linter.unusedVariables false

def lenA (n t i : Nat) : Nat := if i < t then n + 1 else n
structure Ax (w0 : World) (B o n t : Nat) (G C : Nat → Nat) (Z : Nat → Nat → Nat) (w : World) : Prop where
  ob : B ≤ o ∧ o < w.heap.size
  gb : ∀ i, i < n → B ≤ G i ∧ G i < w.heap.size
  ne : ∀ i, i < n → G i ≠ o
  inj : ∀ i j, i < n → j < n → G i = G j → i = j
  out : ∃ cs : Array Value, w.heap[o]? = some (.cells cs 29 (0, 0)) ∧ ∀ i, i < n → cs[i]? = some (.slice (some ⟨G i, 0, none⟩) (lenA n t i) (C i))
  row : ∀ i, i < n → CapR w (G i) (lenA n t i) (C i) ∧ RowV w (G i) (lenA n t i) (Z i)
  bl : Below B w0 w
section
variable {w0 w w1 w2 : World} {B H o n t : Nat} {G C : Nat → Nat} {Z : Nat → Nat → Nat}
theorem Ax.start (h : Mx w B w.heap.size o n n G C Z) (hc : ∀ i, i < n → CapR w (G i) n (C i)) (hb : Below B w0 w) : Ax w0 B o n 0 G C Z w :=
  ⟨h.ob, h.gb, h.ne, h.inj, h.out, fun i hi => ⟨hc i hi, h.row i hi⟩, hb⟩
theorem Ax.mx (h : Ax w0 B o n n G C Z w) : SSt w0 B w.heap.size o n (n + 1) G C Z w := by
  have hl : ∀ i, i < n → lenA n n i = n + 1 := fun i hi => if_pos hi
  refine ⟨⟨h.ob, h.gb, h.ne, h.inj, fun i hi => (by have := (h.row i hi).1; rw [hl i hi] at this; exact ⟨this.1, this.2.1⟩), ?_, fun i hi => ?_⟩, h.bl, Nat.le_refl _⟩
  · obtain ⟨cs, h1, h2⟩ := h.out
    exact ⟨cs, h1, fun i hi => by rw [h2 i hi, hl i hi]⟩
  · have := (h.row i hi).2
    rw [hl i hi] at this
    exact this
theorem Ax.cellO (h : Ax w0 B o n t G C Z w) {i : Nat} (hi : i < n) : w.cell? ⟨o, i, none⟩ = some (.slice (some ⟨G i, 0, none⟩) (lenA n t i) (C i)) := by
  obtain ⟨cs, h1, h2⟩ := h.out
  rw [cell_of_row w o i cs _ _ h1, h2 i hi]
theorem Ax.frozenO (h : Ax w0 B o n t G C Z w) (i : Nat) : w.frozen? ⟨o, i, none⟩ = false := by
  obtain ⟨cs, h1, h2⟩ := h.out
  exact Blk.frozen (t := 29) h1 i
theorem Ax.new (h : Ax w0 B o n t G C Z w) (hn : New w w1) : Ax w0 B o n t G C Z w1 := by
  have hs := hn.size
  refine ⟨⟨h.ob.1, by have := h.ob.2; omega⟩, fun i hi => ⟨(h.gb i hi).1, by have := (h.gb i hi).2; omega⟩, h.ne, h.inj, ?_, fun i hi => ⟨(h.row i hi).1.new hn, (h.row i hi).2.new hn⟩, Below.next h.bl hn (by have := h.ob; omega)⟩
  obtain ⟨cs, h1, h2⟩ := h.out
  exact ⟨cs, (hn.block o h.ob.2).trans h1, h2⟩
/-- the row that comes next -/
theorem Ax.own (h : Ax w0 B o n t G C Z w) (ht : t < n) : w.ownsRow B 3 1 (.slice (some ⟨G t, 0, none⟩) n (C t)) n (rowL (Z t) n) := by
  obtain ⟨⟨h1, h2, cs, h3, h4⟩, cs', h5, h6⟩ := h.row t ht
  have hl : lenA n t t = n := if_neg (by omega)
  rw [hl] at h1 h6
  rw [h3] at h5
  injection h5 with h5
  injection h5 with h5 _ _
  subst h5
  refine ⟨by rw [rowL_len, Nat.mul_one], .inr ⟨G t, C t, cs, rfl, (h.gb t ht).1, h3, h1, h2, by rw [h4, Nat.mul_one], ?_⟩⟩
  rw [Nat.mul_one]
  apply List.ext_getElem?
  intro k
  rw [List.getElem?_take]
  by_cases hk : k < n
  · rw [if_pos hk]
    have := h6 k hk
    simpa [rowL, hk] using this
  · rw [if_neg hk, List.getElem?_eq_none (by rw [rowL_len]; omega)]
theorem Ax.step {g c : Nat} (h : Ax w0 B o n t G C Z w) (ht : t < n) (hn : New w w1) (hown : w2.ownsRow B 3 1 (.slice (some ⟨g, 0, none⟩) (n + 1) c) (n + 1) (rowL (Z t) (n + 1)))
    (hgr : w1.grownBy w2 (some (G t))) (hat : g = G t ∨ g = w1.heap.size) :
    Ax w0 B o n (t + 1) (fun i => if i = t then g else G i) (fun i => if i = t then c else C i) Z (w2.setCell ⟨o, t, none⟩ (.slice (some ⟨g, 0, none⟩) (n + 1) c)) := by
  have h1 := h.new hn
  have hs := hgr.size
  have hgo : g ≠ o := by
    rcases hat with e | e
    · rw [e]; exact h.ne t ht
    · have := h1.ob.2; omega
  have hgi : ∀ i, i < n → i ≠ t → g ≠ G i := fun i hi hit => by
    rcases hat with e | e
    · rw [e]; exact fun e2 => hit (h.inj t i ht hi e2).symm
    · have := (h1.gb i hi).2; omega
  have hBs : B ≤ w1.heap.size := by have := h1.ob; omega
  have hB : B ≤ g := by
    rcases hat with e | e
    · rw [e]; exact (h.gb t ht).1
    · omega
  have hc2 : CapR w2 g (n + 1) c := CapR.of_own hown
  have hv2 : RowV w2 g (n + 1) (Z t) := RowV.of_own hown
  have hsz : (w2.setCell ⟨o, t, none⟩ (.slice (some ⟨g, 0, none⟩) (n + 1) c)).heap.size = w2.heap.size := by simp [World.setCell]
  refine ⟨⟨h1.ob.1, by rw [hsz]; have := h1.ob.2; omega⟩, fun i hi => ?_, fun i hi => ?_, fun i j hi hj he => ?_, ?_, fun i hi => ?_, ?_⟩
  · rw [hsz]
    by_cases e : i = t
    · rw [if_pos e]; exact ⟨hB, hc2.lt⟩
    · rw [if_neg e]
      have := h1.gb i hi
      exact ⟨this.1, by omega⟩
  · by_cases e : i = t
    · rw [if_pos e]; exact hgo
    · rw [if_neg e]; exact h.ne i hi
  · by_cases e1 : i = t <;> by_cases e2 : j = t
    · omega
    · rw [if_pos e1, if_neg e2] at he
      exact absurd he (hgi j hj e2)
    · rw [if_neg e1, if_pos e2] at he
      exact absurd he.symm (hgi i hi e1)
    · rw [if_neg e1, if_neg e2] at he
      exact h.inj i j hi hj he
  · obtain ⟨cs, h3, h4⟩ := h1.out
    have h5 : w2.heap[o]? = some (.cells cs 29 (0, 0)) := (hgr.block o h1.ob.2 (fun e => h.ne t ht (by injection e with e; exact e.symm))).trans h3
    refine ⟨_, Blk.put (t := 29) h5 t _, fun i hi => ?_⟩
    have hlt : i < cs.size := by
      rcases Nat.lt_or_ge i cs.size with hl | hl
      · exact hl
      · have := h4 i hi
        rw [Array.getElem?_eq_none hl] at this; cases this
    by_cases e : i = t
    · subst e
      rw [Array.getElem?_setIfInBounds_self_of_lt hlt, if_pos rfl, if_pos rfl]
      simp [lenA]
    · rw [Array.getElem?_setIfInBounds_ne (fun e2 => e e2.symm), if_neg e, if_neg e, h4 i hi]
      have : lenA n t i = lenA n (t + 1) i := by unfold lenA; split <;> split <;> omega
      rw [this]
  · by_cases e : i = t
    · subst e
      rw [if_pos rfl, if_pos rfl, show lenA n (i + 1) i = n + 1 from if_pos (by omega)]
      exact ⟨hc2.block (Below.heap_setCell w2 _ _ g hgo), hv2.block (Below.heap_setCell w2 _ _ g hgo)⟩
    · rw [if_neg e, if_neg e]
      have hb : (w2.setCell ⟨o, t, none⟩ (.slice (some ⟨g, 0, none⟩) (n + 1) c)).heap[G i]? = w1.heap[G i]? := (Below.heap_setCell w2 _ _ (G i) (h.ne i hi)).trans (hgr.block (G i) (h1.gb i hi).2 (fun e2 => e (h.inj i t hi ht (by injection e2))))
      have hl : lenA n (t + 1) i = lenA n t i := by unfold lenA; split <;> split <;> omega
      rw [hl]
      exact ⟨(h1.row i hi).1.block hb, (h1.row i hi).2.block hb⟩
  · exact (Below.grown h1.bl hgr hBs (fun g' hg' => by injection hg' with hg'; rw [← hg']; exact (h.gb t ht).1)).setCell h1.ob.1 _
end
theorem rowL_app (f : Nat → Nat) (n : Nat) : rowL f n ++ [.int .i64 (f n : Nat)] = rowL f (n + 1) := by
  unfold rowL
  rw [List.range_succ, List.map_append]
  rfl
end Go.Proofs.Ytjmjnodaohbpfaa.mat

/-
  Contract of the reference's solved, five rows or more.
-/
namespace Go.Proofs.Ytjmjnodaohbpfaa.mat
open Go.ChangeShapes Go.WideShapes Go.ChangeAt Go.RowKit Go.Proofs.Ytjmjnodaohbpfaa.kit Go.Proofs.Ytjmjnodaohbpfaa.gf Go.Proofs.Ytjmjnodaohbpfaa.fld Go.Deep
set_option linter.unusedVariables false

theorem swp_comm (Z : Nat → Nat → Nat) (a b : Nat) : swp Z a b = swp Z b a := by
  funext i
  unfold swp
  by_cases h1 : i = a <;> by_cases h2 : i = b
  · rw [if_pos h1, if_pos h2, ← h1, h2]
  · rw [if_pos h1, if_neg h2, if_pos h1]
  · rw [if_neg h1, if_pos h2, if_pos h2]
  · rw [if_neg h1, if_neg h2, if_neg h2, if_neg h1]
/-- the list that is filled from behind -/
def bkF (x : Nat → Nat) (t : Nat) : Nat → Value := fun j => .int .i64 ((if t ≤ j then x j else 0 : Nat) : Int)
theorem bkF_set (x : Nat → Nat) (i : Nat) : (fun j => if j = i then Value.int .i64 ((x i : Nat) : Int) else bkF x (i + 1) j) = bkF x i := by
  funext j
  unfold bkF
  by_cases h : j = i
  · rw [if_pos h, if_pos (by omega), h]
  · rw [if_neg h]
    by_cases h2 : i + 1 ≤ j
    · rw [if_pos h2, if_pos (by omega)]
    · rw [if_neg h2, if_neg (by omega)]
theorem grown_cell {w w' : World} {row : Option Nat} (hg : w.grownBy w' row) {p : Addr} (h : p.block < w.heap.size) (hne : some p.block ≠ row) : w'.cell? p = w.cell? p ∧ w'.frozen? p = w.frozen? p := by
  have := hg.block p.block h hne
  unfold World.cell? World.frozen?
  rw [this]
  exact ⟨rfl, rfl⟩
set_option maxRecDepth 100000 in
set_option maxHeartbeats 4000000 in
theorem solved_big (A V : Option Addr) (n ca cv kk : Nat) (R : Nat → Option Addr) (L C : Nat → Nat) (M : Nat → Nat → Int) (w : World) (h : RdM .i64 w A n R L C M) (hm : mayM n L M = true) (hL : L 0 = n)
    (hr : (stR (fun i k => elN M i k) n n).2 = n) (hV : RdI .i64 w V n (fun i => (unN kk i : Nat))) (hk : kk < n) (h4 : ¬ n ≤ 4) :
    Calls Try.prog 31 #[.slice A n ca, .slice V n cv] w (SolP n (fun i => invN (fun i k => elN M i k) n i kk) w) := by
  obtain ⟨hn1, hn8, _⟩ := mayM_out hm
  have hb : Hid (bytesP (fun i k => elN M i k) n n) := elN_bytes hm hL
  have hown := Lib.hid (fun w1 (hn : New w w1) => ownMatrix_cap A n ca n R L C M w1 (h.new hn) hm hL)
  obtain ⟨Z, hZ⟩ : ∃ Z : Nat → Nat → Nat, Z = fun i k => elN M i k := ⟨_, rfl⟩
  rw [← hZ] at hr hb hown ⊢
  have hr0 := Lib.hid hr
  obtain ⟨bv, ov, rfl, hbv, hcv⟩ := hV.2 (by omega)
  have hcv0 := Lib.hid hcv
  obtain ⟨x, hx⟩ : ∃ x : Nat → Nat, Hid (x = fun i => invN Z n i kk) := ⟨_, rfl⟩
  rw [← hx.out]
  have hmk := run_make_row' (P := Try.prog) 29 3 (.int .i64 0) 8 Try.underlying29 infoInt rfl .i64 .i64 n (by omega) (by omega)
  obtain ⟨i0, hi0, hz0, hz1, hz2⟩ := info_parts infoInt
  have h4i : ¬ (n : Int) ≤ 4 := by omega
  have hK0 : Hid (∀ i, i < n → colN Z n kk i n = unN kk i) := fun i _ => if_neg (by omega)
  have hK1 : Hid (∀ i j, j < n → colN Z n kk i j = Z i j) := fun i j hj => if_pos hj
  clear h hm hL hr hZ hV hcv
  go_enter Try.func31, Try.ntmps31
  go_wp2_with fail
  refine (hown.out w (New.refl w)).mono ?_
  rintro e W ⟨o, cap, G0, C0, rfl, hcap, hmx, hnW, hcp⟩
  obtain ⟨B, hB⟩ : ∃ B, Hid (B = w.heap.size) := ⟨_, rfl⟩
  have hbl : Below B W W := Below.refl _ _
  have hax : Hid (Ax W B o n 0 G0 C0 (colN Z n kk) W) := by
    rw [hB.out]
    have hmx2 : Mx W w.heap.size W.heap.size o n n G0 C0 (colN Z n kk) := hmx.congr fun i j hi hj => by rw [hK1.out i j hj]
    exact Ax.start hmx2 hcp (Below.refl _ _)
  have hnW0 := Lib.hid hnW
  have hbB : bv < B := by rw [hB.out]; exact hbv
  clear hmx hnW hcp hown hbl
  go_wp2_with fail
  go_loopw [66] (fun x0 wr => ∃ (t : Nat) (G C : Nat → Nat), x0 = .int .i64 t ∧ t ≤ n ∧ Hid (Ax W B o n t G C (colN Z n kk) wr)) (fun x0 _ => n - (intOf x0).toNat)
  case atStart => exact ⟨0, G0, C0, rfl, Nat.zero_le _, hax.out⟩
  case round =>
    clear hax
    obtain ⟨t, G, C, rfl, ht, hs⟩ := hrel
    by_cases hlt : t < n
    · have hti : (t : Int) < (n : Int) := by omega
      have a0 : (0 : Int) ≤ (t : Int) := by omega
      have c0 := hs.out.cellO hlt
      rw [show lenA n t t = n from if_neg (by omega)] at c0
      have f0 := hs.out.frozenO t
      have cv := (hs.out.bl.cell (p := ⟨bv, ov + t, none⟩) hbB).trans ((hnW0.out.cell hbv).trans (hcv0.out t hlt))
      obtain ⟨u, hu⟩ : ∃ u, Hid (u = unN kk t) := ⟨_, rfl⟩
      rw [← hu.out] at cv
      have hown := hs.out.own hlt
      have hob := hs.out.ob
      have hgo := hs.out.ne t hlt
      have hBs : B ≤ wr.heap.size := by omega
      have hA := Lib.hid (hs.out.new (((New.refl wr).alloc (.cells #[.int .i64 ((u : Nat) : Int)] 3)).drew))
      have hcA := (hA.out.cellO hlt)
      rw [show lenA n t t = n from if_neg (by omega)] at hcA
      have hfA := hA.out.frozenO t
      have hcA := Lib.hid hcA
      have hfA := Lib.hid hfA
      go_wp2_with fail
      go_region_law (refine step_append_lies _ (by rfl) _ _ 29 (by rfl) B 3 i0 _ 1 8 Try.underlying29 hi0 hz0 hz1 hz2 rfl (by decide) (Value.slice (some ⟨G t, 0, none⟩) n (C t)) n (rowL (colN Z n kk t) n) (by rfl) ((hown.alloc _).drew) ⟨wr.heap.size, 0, none⟩ 1 1 [.int .i64 (u : Nat)] (by rfl) (by rfl) (World.news_of_block (cs := #[.int .i64 (u : Nat)]) (t := 3) (fr := (0, 0)) (heap_alloc_new wr _)) (by simp [Value.oneCell']) (by omega) (by unfold maxLen; omega) (by omega) (by simp; omega) (wr.heap.size + 1) (by simp) ?_; intro gg cap1 w7 hown7 hgrow7 hat7 hlt7; have g7 := grown_cell (p := ⟨o, t, none⟩) hgrow7 hA.out.ob.2 (fun e => hgo (by injection e with e; exact e.symm)); have c7 := g7.1.trans hcA.out; have f7 := g7.2.trans hfA.out)
      all_goals
        have hs2 : Hid (Ax W B o n (t + 1) (fun i => if i = t then gg else G i) (fun i => if i = t then cap1 else C i) (colN Z n kk) (w7.setCell ⟨o, t, none⟩ (.slice (some ⟨gg, 0, none⟩) (n + 1) cap1))) := by
          rw [hu.out, ← hK0.out t hlt, rowL_app] at hown7
          exact hs.out.step hlt (((New.refl wr).alloc (.cells #[.int .i64 ((u : Nat) : Int)] 3)).drew) hown7 hgrow7 (by
            rcases hat7 with h | h
            · left; simp [Value.ownBlock] at h; omega
            · right; rw [h]; simp [World.drew])
      all_goals clear hown7 hgrow7 hat7 g7 c7 f7 hA hcA hfA hown c0 f0 cv hs
      all_goals go_wp2
      all_goals go_roundw
      all_goals first | exact ⟨t + 1, _, _, by go_num, by omega, hs2.out⟩ | (simp [intOf]; omega)
    · have htn : t = n := by omega
      have hst0 := Lib.hid (show SSt W B wr.heap.size o n (n + 1) G C (colN Z n kk) wr by rw [htn] at hs; exact hs.out.mx)
      obtain ⟨H, hH⟩ : ∃ H, Hid (H = wr.heap.size) := ⟨_, rfl⟩
      rw [← hH.out] at hst0
      have hti : ¬ (t : Int) < (n : Int) := by omega
      clear hs htn hlt
      go_wp2_with fail
      go_loopw [13] (fun x0 wr => ∃ (c : Nat) (G C : Nat → Nat), x0 = .int .i64 c ∧ c ≤ n ∧ Hid (SSt W B H o n (n + 1) G C (gaN Z n kk c) wr)) (fun x0 _ => n - (intOf x0).toNat)
      case atStart => exact ⟨0, G, C, rfl, Nat.zero_le _, hst0.out⟩
      case round =>
        clear hst0
        obtain ⟨c, G, C, rfl, hc, hs⟩ := hrel
        by_cases hlt : c < n
        · have hci : (c : Int) < (n : Int) := by omega
          have hby : Hid (bytesP (gaN Z n kk c) n (n + 1)) := gaN_bytes hb.out c
          obtain ⟨p, hpv, hcp, hpn, hp0, hnext⟩ := gaN_pv (k := kk) hb.out hr0.out hlt
          have hzer := Lib.hid (pv_before hpv)
          have hnext0 := Lib.hid hnext
          have hp00 := Lib.hid hp0
          have hleft : Hid (∀ i j, i < n → j < c → eliR (swp (gaN Z n kk c) c p) c c i j = swp (gaN Z n kk c) c p i j) := fun i j hi hj => gaN_next hb.out hr0.out hlt hcp hpn hi hj
          obtain ⟨Y, hY⟩ : ∃ Y, Y = gaN Z n kk c := ⟨_, rfl⟩
          rw [← hY] at hs hby hzer hp00 hnext0 hleft
          clear hpv hp0 hnext hY
          have c0i : (0 : Int) ≤ (c : Int) := by omega
          go_wp2_with fail
          go_loopw [14] (fun x0 wr => ∃ i : Nat, x0 = .int .i64 i ∧ c ≤ i ∧ i ≤ p ∧ Hid (SSt W B H o n (n + 1) G C Y wr)) (fun x0 _ => p - (intOf x0).toNat)
          case atStart => exact ⟨c, rfl, Nat.le_refl _, hcp, hs.out⟩
          case round =>
            clear hs
            obtain ⟨i, rfl, hi1, hi2, hs⟩ := hrel
            have hin : i < n := by omega
            have hii : (i : Int) < (n : Int) := by omega
            have hio := hs.out.mx.cellO hin
            have hv := hs.out.mx.cell hin (show c < n + 1 by omega)
            have hcw : c < n + 1 := by omega
            have hci2 : (c : Int) < (n : Int) + 1 := by omega
            by_cases hip : i < p
            · rw [hzer.out i hi1 hip] at hv
              go_wp2
              go_roundw
              case rel => exact ⟨i + 1, by go_num, by omega, by omega, hs.out⟩
              case measure => simp [intOf]; omega
            · have hie : i = p := by omega
              subst hie
              clear hip
              have hz0 := hp00.out
              have hzb : (((Y i c : Nat) : Int) == 0) = false := by simpa using hz0
              have hzi : ((Y i c : Nat) : Int) ≠ 0 := by omega
              obtain ⟨zz, hzz⟩ : ∃ zz, Hid (zz = Y i c) := ⟨_, rfl⟩
              rw [← hzz.out] at hv hzi hzb
              clear hz0
              have hto := hs.out.mx.cellO hlt
              have hfo := hs.out.mx.frozenO c
              have hfo2 := hs.out.mx.frozenO i
              obtain ⟨X, hX⟩ : ∃ X, (wr.setCell ⟨o, i, none⟩ (.slice (some ⟨G c, 0, none⟩) (n + 1) (C c))).cell? ⟨o, c, none⟩ = some X := hs.out.mx.set_some hlt i _
              have hXf : (wr.setCell ⟨o, i, none⟩ (.slice (some ⟨G c, 0, none⟩) (n + 1) (C c))).frozen? ⟨o, c, none⟩ = false := hs.out.mx.set_frozen i _ c
              have hsw := Lib.hid (hs.out.swap hin hlt).drew
              have a1 : (0 : Int) ≤ (i : Int) := by omega
              go_wp2_with fail
              go_region
              have hz1 : swp Y c i c c ≠ 0 := by unfold swp; rw [if_pos rfl]; exact hp00.out
              have hb1 := Lib.hid (swp_bytes hby.out hlt hin)
              clear hX hXf hio hv hto hfo hfo2 hzi hzb hzz hs hp00 hzer hby
              obtain ⟨W1, hW1⟩ : ∃ W1, W1 = ((wr.setCell ⟨o, i, none⟩ (.slice (some ⟨G c, 0, none⟩) (n + 1) (C c))).setCell ⟨o, c, none⟩ (.slice (some ⟨G i, 0, none⟩) (n + 1) (C i))).drew := ⟨_, rfl⟩
              rw [← hW1] at hsw ⊢
              rw [swp_comm Y i c] at hsw
              obtain ⟨Z1, hZ1⟩ : ∃ Z1, Z1 = swp Y c i := ⟨_, rfl⟩
              obtain ⟨G1, hG1⟩ : ∃ G1, G1 = swpN G i c := ⟨_, rfl⟩
              obtain ⟨C2, hC2⟩ : ∃ C2, C2 = swpN C i c := ⟨_, rfl⟩
              rw [← hZ1] at hsw hb1 hz1 hnext0 hleft
              rw [← hG1, ← hC2] at hsw
              obtain ⟨q, hq⟩ : ∃ q, Hid (q = Z1 c c) := ⟨_, rfl⟩
              rw [← hq.out] at hz1
              have hql : q < 256 := by rw [hq.out]; exact hb1.out c c hlt (by omega)
              clear hW1 hZ1 hG1 hC2 X
              go_wp2_with fail
              go_loopw [15] (fun x0 wr => ∃ j : Nat, x0 = .int .i64 j ∧ c < j ∧ j ≤ n ∧ Hid (SSt W B H o n (n + 1) G1 C2 (fun i' k' => if i' < j then eliR Z1 c c i' k' else Z1 i' k') wr)) (fun x0 _ => n - (intOf x0).toNat)
              case atStart => exact ⟨c + 1, by go_num, by omega, by omega, hsw.out.congr fun i' k' _ _ => by
                by_cases h1 : i' < c + 1
                · rw [if_pos h1]
                  unfold eliR
                  rw [if_neg (by omega)]
                · rw [if_neg h1]⟩
              case round =>
                clear hsw
                obtain ⟨j, rfl, htj, hjn, hs⟩ := hrel
                by_cases hlj : j < n
                · have hji : (j : Int) < (n : Int) := by omega
                  have hjo := hs.out.mx.cellO hlj
                  have hto := hs.out.mx.cellO hlt
                  have hy := hs.out.mx.cell hlj hcw
                  rw [if_neg (by omega)] at hy
                  have hqc := hs.out.mx.cell hlt hcw
                  rw [if_pos (by omega), show eliR Z1 c c c c = Z1 c c from if_neg (by omega), ← hq.out] at hqc
                  obtain ⟨y, hye⟩ : ∃ y, Hid (y = Z1 j c) := ⟨_, rfl⟩
                  rw [← hye.out] at hy
                  have hyl : y < 256 := by rw [hye.out]; exact hb1.out j c hlj hcw
                  obtain ⟨f, hf⟩ : ∃ f, Hid (f = divN y q) := ⟨_, rfl⟩
                  have hfl : f < 256 := by rw [hf.out]; exact divN_lt _ _
                  have hdv : Hid (∀ w, Calls Try.prog 52 #[.int .i64 y, .int .i64 q] w fun e w' => e = .returned (.int .i64 f) ∧ New w w') := fun w => (divOf_any y q hyl hql hz1 w).mono fun e w' h => ⟨by rw [hf.out]; exact h.1, by rw [← h.2]; exact New.refl w⟩
                  have q0 := NewW.keep hjo
                  have q1 := NewW.keep hto
                  have q2 := NewW.keep hy
                  have q3 := NewW.keep hqc
                  have a3 : (0 : Int) ≤ (j : Int) := by omega
                  go_wp2
                  (refine wp_region_quiet_new (by kernel_rfl) (by kernel_rfl) ?_; (repeat (first | go_big_quiet_step (first | (go_at_call 52; exact NewW.call _ (hdv.out _))) | quiet_step (first | (go_at_call 52; exact NewW.call _ (hdv.out _))))); refine wpQuiet_nil ?_; rintro W3 ⟨⟨_, hn_W3⟩, rfl⟩)
                  have hs3 := Lib.hid (hs.out.new hn_W3)
                  clear q0 q1 q2 q3 hjo hto hy hqc hs hdv
                  go_wp2_with fail
                  go_loopw [17] (fun x0 wr => ∃ k : Nat, x0 = .int .i64 k ∧ c ≤ k ∧ k ≤ n + 1 ∧ Hid (SSt W B H o n (n + 1) G1 C2 (fun i' k' => if i' < j then eliR Z1 c c i' k' else if i' = j ∧ k' < k then eliR Z1 c c j k' else Z1 i' k') wr)) (fun x0 _ => n + 1 - (intOf x0).toNat)
                  case atStart => exact ⟨c, rfl, Nat.le_refl _, by omega, hs3.out.congr fun i' k hi' _ => by
                    by_cases h1 : i' < j
                    · rw [if_pos h1, if_pos h1]
                    · rw [if_neg h1, if_neg h1]
                      by_cases h2 : i' = j ∧ k < c
                      · rw [if_pos h2, h2.1, hleft.out j k hlj h2.2]
                      · rw [if_neg h2]⟩
                  case round =>
                    clear hs3
                    obtain ⟨k, rfl, hk1, hk, hs⟩ := hrel
                    by_cases hkm : k ≤ n
                    · have hkm1 : k < n + 1 := by omega
                      have hjo := hs.out.mx.cellO hlj
                      have hto := hs.out.mx.cellO hlt
                      have hx0 := hs.out.mx.cell hlj hkm1
                      rw [if_neg (by omega), if_neg (by omega)] at hx0
                      have hT := hs.out.mx.cell hlt hkm1
                      rw [if_pos (by omega), show eliR Z1 c c c k = Z1 c k from if_neg (by omega)] at hT
                      obtain ⟨x1, hxe⟩ : ∃ x1, Hid (x1 = Z1 j k) := ⟨_, rfl⟩
                      obtain ⟨z, hze⟩ : ∃ z, Hid (z = Z1 c k) := ⟨_, rfl⟩
                      rw [← hxe.out] at hx0
                      rw [← hze.out] at hT
                      have hxl : x1 < 256 := by rw [hxe.out]; exact hb1.out j k hlj hkm1
                      have hzl : z < 256 := by rw [hze.out]; exact hb1.out c k hlt hkm1
                      obtain ⟨v, hv⟩ : ∃ v, Hid (v = mul f z) := ⟨_, rfl⟩
                      have hvl : v < 256 := by rw [hv.out]; exact mul_lt _ _ hfl
                      have hxor := i64_xor_nat x1 v (by omega) (by omega)
                      have htm : Hid (∀ w, Calls Try.prog 25 #[.int .i64 f, .int .i64 z] w fun e w' => e = .returned (.int .i64 v) ∧ New w w') := fun w => (mulOf_any f z hfl hzl w).mono fun e w' h => ⟨by rw [hv.out]; exact h.1, by rw [← h.2]; exact New.refl w⟩
                      have q0 := NewW.keep hjo
                      have q1 := NewW.keep hto
                      have q2 := NewW.keep hx0
                      have q3 := NewW.keep hT
                      have b1 : (0 : Int) ≤ (k : Int) := by omega
                      have b2 : (k : Int) ≤ (n : Int) := by omega
                      have b3 : (k : Int) < (n : Int) + 1 := by omega
                      go_wp2
                      (refine wp_region_new_tail 17 (by kernel_rfl) (by kernel_rfl) ?_; simp only [List.take_succ_cons, List.take_zero, List.drop_succ_cons, List.drop_zero]; (repeat (first | go_big_quiet_step (first | (go_at_call 25; exact NewW.call _ (htm.out _))) | quiet_step (first | (go_at_call 25; exact NewW.call _ (htm.out _))))); refine wpQuiet_nil ?_; rintro W4 ⟨⟨_, hn_W4⟩, rfl⟩)
                      have hs7 := hs.out.new hn_W4
                      have hx3 := (hn_W4.cell (lt_of_cell hx0)).trans hx0
                      have hf3 := hs7.mx.frozen hlj k
                      have hs8 := Lib.hid ((hs7.set hlj (k := k) (x1 ^^^ v)).congr (Y := fun i' k' => if i' < j then eliR Z1 c c i' k' else if i' = j ∧ k' < k + 1 then eliR Z1 c c j k' else Z1 i' k') fun i' k' _ _ => by
                        by_cases h1 : i' = j ∧ k' = k
                        · rw [if_pos h1, if_neg (by omega), if_pos ⟨h1.1, by omega⟩, h1.2]
                          unfold eliR
                          rw [if_pos htj, hxe.out, hv.out, hze.out, hf.out, hye.out, hq.out]
                        · rw [if_neg h1]
                          by_cases h2 : i' < j
                          · rw [if_pos h2, if_pos h2]
                          · rw [if_neg h2, if_neg h2]
                            by_cases h3 : i' = j ∧ k' < k
                            · rw [if_pos h3, if_pos ⟨h3.1, by omega⟩]
                            · rw [if_neg h3, if_neg (by omega)])
                      clear hs7 hs hx0 hT q0 q1 q2 q3 hjo hto
                      go_wp2
                      go_roundw
                      case rel => exact ⟨k + 1, by go_num, by omega, by omega, hs8.out⟩
                      case measure => simp [intOf]; omega
                    · have hs8 : Hid (SSt W B H o n (n + 1) G1 C2 (fun i' k' => if i' < j + 1 then eliR Z1 c c i' k' else Z1 i' k') wr) := hs.out.congr fun i' k' _ hk' => by
                        by_cases h1 : i' < j
                        · rw [if_pos h1, if_pos (by omega)]
                        · rw [if_neg h1]
                          by_cases h2 : i' = j
                          · subst h2
                            rw [if_pos ⟨rfl, by omega⟩, if_pos (by omega)]
                          · rw [if_neg (fun h => h2 h.1), if_neg (by omega)]
                      have hki : ¬ (k : Int) ≤ (n : Int) := by omega
                      clear hs hkm
                      go_wp2
                      go_roundw
                      case rel => exact ⟨j + 1, by go_num, by omega, by omega, hs8.out⟩
                      case measure => simp [intOf]; omega
                · have hs9 : Hid (SSt W B H o n (n + 1) G1 C2 (gaN Z n kk (c + 1)) wr) := by rw [hnext0.out]; exact hs.out.congr fun i' k' hi' _ => by rw [if_pos (by omega)]
                  have hji : ¬ (j : Int) < (n : Int) := by omega
                  clear hs hlj
                  go_wp2
                  go_roundw
                  case rel => exact ⟨c + 1, G1, C2, by go_num, by omega, hs9.out⟩
                  case measure => simp [intOf]; omega
        · have hcn : c = n := by omega
          obtain ⟨U, hU⟩ : ∃ U, Hid (U = gaN Z n kk n) := ⟨_, rfl⟩
          have hsU : Hid (SSt W B H o n (n + 1) G C U wr) := by rw [hU.out, ← hcn]; rw [hcn]; rw [hcn] at hs; exact hs.out
          have hUb : Hid (bytesP U n (n + 1)) := by rw [hU.out]; exact gaN_bytes hb.out n
          have hUd : Hid (∀ i, i < n → U i i ≠ 0) := by rw [hU.out]; exact (gaN_shape hb.out hr0.out n (Nat.le_refl _)).2
          have hxb : Hid (∀ i, i < n → x i < 256) := fun i hi => by rw [hx.out]; exact invN_lt hb.out i kk hi hk
          have hbk : Hid (∀ i, i < n → divN (bkN U x n i (n - (i + 1))) (U i i) = x i) := fun i hi => by rw [hx.out, hU.out]; exact back_inv hb.out hr0.out hk hi
          have hnw0 : Hid (New w wr) := by
            have := hs.out.bl
            rw [hB.out] at this
            exact hnW0.out.trans this
          have hci : ¬ (c : Int) < (n : Int) := by omega
          obtain ⟨Wb, hWb⟩ : ∃ Wb, Wb = wr := ⟨_, rfl⟩
          rw [← hWb] at hsU hnw0 ⊢
          clear hs hlt hcn hWb
          go_wp2_with fail
          go_loopw [19] (fun x0 wr => ∃ (t : Nat) (v : Int), x0 = .int .i64 v ∧ v = (t : Int) - 1 ∧ t ≤ n ∧ Hid (New Wb wr) ∧ Hid (wr.rowIs Wb.heap.size 3 n (bkF x t))) (fun x0 _ => (intOf x0 + 1).toNat)
          case atStart => exact ⟨n, _, rfl, by go_num, Nat.le_refl _, (New.refl Wb).alloc _, (World.rowIs_made Wb (.int .i64 0) n 3).congr fun j hj => by
            show Value.int .i64 0 = bkF x n j
            unfold bkF
            rw [if_neg (by omega)]
            rfl⟩
          case round =>
            obtain ⟨t, v, rfl, hv, ht, hn2, hrw⟩ := hrel
            by_cases ht0 : t = 0
            · have hv1 : v = -1 := by omega
              subst hv1
              have hpost : Hid (SolP n x w (.returned (.slice (some ⟨Wb.heap.size, 0, none⟩) n n)) wr) := ⟨_, _, rfl, hnw0.out.size, hrw.out.congr fun j hj => by simp [bkF, ht0], hnw0.out.next hn2.out⟩
              clear hv ht0
              go_wp2
              go_ret
              exact hpost.out
            · obtain ⟨i, rfl⟩ : ∃ i, t = i + 1 := ⟨t - 1, by omega⟩
              have hvi : v = (i : Int) := by omega
              subst hvi
              have hin : i < n := by omega
              have hi0 : (i : Int) ≥ 0 := by omega
              have hii : (i : Int) < (n : Int) := by omega
              have a0 : (0 : Int) ≤ (i : Int) := by omega
              have hs := Lib.hid (hsU.out.new hn2.out)
              have hio := hs.out.mx.cellO hin
              have hun := hs.out.mx.cell hin (show n < n + 1 by omega)
              obtain ⟨s0, hs0⟩ : ∃ s0, Hid (s0 = U i n) := ⟨_, rfl⟩
              rw [← hs0.out] at hun
              have hs0l : s0 < 256 := by rw [hs0.out]; exact hUb.out i n hin (by omega)
              have hs0b : Hid (s0 = bkN U x n i 0) := by rw [hs0.out]; exact (Nat.xor_zero _).symm
              have hnn : (n : Int) < (n : Int) + 1 := by omega
              clear hv ht0 ht
              go_wp2_with fail
              go_loopw [21, 20] (fun a b wr => ∃ d k s : Nat, a = .int .i64 k ∧ b = .int .i64 s ∧ Hid (k = i + 1 + d) ∧ i < k ∧ k ≤ n ∧ s < 256 ∧ Hid (s = bkN U x n i d) ∧ Hid (New Wb wr) ∧ Hid (wr.rowIs Wb.heap.size 3 n (bkF x (i + 1)))) (fun a _ _ => n - (intOf a).toNat)
              case atStart => exact ⟨0, i + 1, s0, by go_num, rfl, rfl, by omega, by omega, hs0l, hs0b, hn2.out, hrw.out⟩
              case round =>
                clear hs hio hun hn2 hrw hs0b hs0l hs0
                obtain ⟨d, k, s, rfl, rfl, hkd, hik, hkn, hsl, hsb, hn2, hrw⟩ := hrel
                have hs := Lib.hid (hsU.out.new hn2.out)
                by_cases hkl : k < n
                · have hki : (k : Int) < (n : Int) := by omega
                  have a1 : (0 : Int) ≤ (k : Int) := by omega
                  have hio := hs.out.mx.cellO hin
                  have huk := hs.out.mx.cell hin (show k < n + 1 by omega)
                  have hxk := hrw.out.cell hkl
                  rw [show bkF x (i + 1) k = .int .i64 ((x k : Nat) : Int) from by unfold bkF; rw [if_pos (by omega)]] at hxk
                  obtain ⟨u, hu⟩ : ∃ u, Hid (u = U i k) := ⟨_, rfl⟩
                  obtain ⟨y, hy⟩ : ∃ y, Hid (y = x k) := ⟨_, rfl⟩
                  rw [← hu.out] at huk
                  rw [← hy.out] at hxk
                  have hul : u < 256 := by rw [hu.out]; exact hUb.out i k hin (by omega)
                  have hyl : y < 256 := by rw [hy.out]; exact hxb.out k hkl
                  obtain ⟨v, hv⟩ : ∃ v, Hid (v = mul u y) := ⟨_, rfl⟩
                  have hvl : v < 256 := by rw [hv.out]; exact mul_lt _ _ hul
                  have hxor := i64_xor_nat s v (by omega) (by omega)
                  have htm : Hid (∀ w, Calls Try.prog 25 #[.int .i64 u, .int .i64 y] w fun e w' => e = .returned (.int .i64 v) ∧ New w w') := fun w => (mulOf_any u y hul hyl w).mono fun e w' h => ⟨by rw [hv.out]; exact h.1, by rw [← h.2]; exact New.refl w⟩
                  have hs2l : s ^^^ v < 256 := xor_lt8 hsl hvl
                  have hs2b : Hid (s ^^^ v = bkN U x n i (d + 1)) := by rw [bkN_succ, ← hkd.out, ← hu.out, ← hy.out, ← hv.out, ← hsb.out]; exact (rfl : _ = _)
                  have hkd2 : Hid (k + 1 = i + 1 + (d + 1)) := by have := hkd.out; show k + 1 = i + 1 + (d + 1); omega
                  have q0 := NewW.keep hio
                  have q1 := NewW.keep huk
                  have q2 := NewW.keep hxk
                  have b3 : (k : Int) < (n : Int) + 1 := by omega
                  clear hs
                  go_wp2
                  (refine wp_region_quiet_new (by kernel_rfl) (by kernel_rfl) ?_; (repeat (first | go_big_quiet_step (first | (go_at_call 25; exact NewW.call _ (htm.out _))) | quiet_step (first | (go_at_call 25; exact NewW.call _ (htm.out _))))); refine wpQuiet_nil ?_; rintro W4 ⟨⟨_, hn_W4⟩, rfl⟩)
                  go_wp2
                  go_roundw
                  case rel => exact ⟨d + 1, k + 1, s ^^^ v, by go_num, rfl, hkd2, by omega, by omega, hs2l, hs2b, hn2.out.next hn_W4, rowIs_new hrw.out hn_W4⟩
                  case measure => simp [intOf]; omega
                · have hki : ¬ (k : Int) < (n : Int) := by omega
                  have hio := hs.out.mx.cellO hin
                  have hui := hs.out.mx.cell hin (show i < n + 1 by omega)
                  obtain ⟨q, hq⟩ : ∃ q, Hid (q = U i i) := ⟨_, rfl⟩
                  rw [← hq.out] at hui
                  have hql : q < 256 := by rw [hq.out]; exact hUb.out i i hin (by omega)
                  have hq0 : q ≠ 0 := by rw [hq.out]; exact hUd.out i hin
                  have hxi : Hid (divN s q = x i) := by
                    have e : d = n - (i + 1) := by have := hkd.out; omega
                    rw [hsb.out, hq.out, e]
                    exact hbk.out i hin
                  have hz := hrw.out.frozen i
                  obtain ⟨X, hX⟩ : ∃ X, wr.cell? ⟨Wb.heap.size, i, none⟩ = some X := ⟨_, hrw.out.cell hin⟩
                  have hrw4 : Hid ((wr.setCell ⟨Wb.heap.size, i, none⟩ (.int .i64 ((x i : Nat) : Int))).rowIs Wb.heap.size 3 n (bkF x i)) := by
                    have := hrw.out.set i (.int .i64 ((x i : Nat) : Int))
                    rw [bkF_set] at this
                    exact this
                  have hn4 : Hid (New Wb (wr.setCell ⟨Wb.heap.size, i, none⟩ (.int .i64 ((x i : Nat) : Int)))) := hn2.out.set (Nat.le_refl _) _
                  have hii2 : (i : Int) < (n : Int) + 1 := by omega
                  clear hs hkl hkd hsb hq
                  go_wp2_with fail
                  refine (divOf_any s q hsl hql hq0 _).mono ?_
                  rintro e W4 ⟨rfl, rfl⟩
                  rw [hxi.out]
                  go_wp2
                  go_roundw
                  case rel => exact ⟨i, _, rfl, (by first | rfl | omega), by omega, hn4.out, hrw4.out⟩
                  case measure => simp [intOf]
end Go.Proofs.Ytjmjnodaohbpfaa.mat
