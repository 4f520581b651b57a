/-
  Contract of the program's reduce.
-/
import Derived.Test.YtjmjnodaohbpfaaMatMem
import Derived.BigRegion
namespace Go.Proofs.Ytjmjnodaohbpfaa.mat
open Go.ChangeShapes Go.WideShapes Go.ChangeAt Go.RowKit Go.Proofs.Ytjmjnodaohbpfaa.kit Go.Proofs.Ytjmjnodaohbpfaa.gf Go.Deep
set_option linter.unusedVariables false

theorem reduce1_any (g m C gc c : Nat) (z : Nat) (w : World) (h1 : w.cell? ⟨gc, 0, none⟩ = some (.int .i64 c)) (h2 : w.cell? ⟨g, c, none⟩ = some (.int .i64 (z : Nat))) (hc : c < m) :
    Calls Try.prog 80 #[.slice (some ⟨g, 0, none⟩) m C, .pointer (some ⟨gc, 0, none⟩)] w fun e w' => e = .returned (.bool (decide (z ≠ 0))) ∧ w = w' := by
  go_enter Try.func80, Try.ntmps80
  go_wp2
  go_ret
  refine ⟨retb ?_, rfl⟩
  by_cases hz : z = 0
  · subst hz; rfl
  · have : (z : Int) ≠ 0 := by omega
    simp [hz]
theorem Mx.drew {w : World} {B H o n m : Nat} {G C : Nat → Nat} {Z : Nat → Nat → Nat} (h : Mx w B H o n m G C Z) : Mx w.drew B H o n m G C Z := h.same fun _ _ _ => rfl
theorem Mx.set_some {w : World} {B H o n m : Nat} {G C : Nat → Nat} {Z : Nat → Nat → Nat} (h : Mx w B H o n m G C Z) {i : Nat} (hi : i < n) (t : Nat) (u : Value) : ∃ X, (w.setCell ⟨o, t, none⟩ u).cell? ⟨o, i, none⟩ = some X := by
  obtain ⟨cs, h1, h2⟩ := h.out
  have h3 := Blk.put (w := w) (t := 29) h1 t u
  have hl : i < cs.size := by
    have := h2 i hi
    rcases Nat.lt_or_ge i cs.size with hl | hl
    · exact hl
    · rw [Array.getElem?_eq_none hl] at this; cases this
  rw [h3.cell i]
  exact ⟨_, Array.getElem?_eq_getElem (by simpa using hl)⟩
theorem Mx.set_frozen {w : World} {B H o n m : Nat} {G C : Nat → Nat} {Z : Nat → Nat → Nat} (h : Mx w B H o n m G C Z) (t : Nat) (u : Value) (i : Nat) : (w.setCell ⟨o, t, none⟩ u).frozen? ⟨o, i, none⟩ = false := by
  obtain ⟨cs, h1, h2⟩ := h.out
  exact (Blk.put (w := w) (t := 29) h1 t u).frozen i
def ixV (t : Nat) : Option Nat → Int
  | none => -1
  | some p => (p : Int) - (t : Int)
theorem index_any (B H o n m : Nat) (G C : Nat → Nat) (Z : Nat → Nat → Nat) (t k cap gc c : Nat) (w : World) (h : Mx w B H o n m G C Z) (hk : t + k = n) (hn : n ≤ 8) (hc : c < m) (h1 : w.cell? ⟨gc, 0, none⟩ = some (.int .i64 c)) :
    Calls Try.prog 79 #[.slice (some ⟨o, t, none⟩) k cap, .func (.func 80) #[] #[.pointer (some ⟨gc, 0, none⟩)]] w fun e w' => e = .returned (.int .i64 (ixV t (pv Z c t k))) ∧ w = w' := by
  have h0 := Lib.hid h
  replace hk := Lib.hid hk
  clear h
  have hk8 : k ≤ 8 := by have := hk.out; omega
  go_enter Try.func79, Try.ntmps79
  go_wp2
  go_loop [8] (fun x => ∃ j : Nat, x = .int .i64 j ∧ j ≤ k ∧ Hid (∀ i, t ≤ i → i < t + j → Z i c = 0)) (fun x => k - (intOf x).toNat)
  case atStart => exact ⟨0, rfl, Nat.zero_le _, fun i h1 h2 => by omega⟩
  case round =>
    obtain ⟨j, rfl, hj, hz⟩ := hrel
    by_cases hlt : j < k
    · have ho := h0.out.cellO (i := t + j) (by have := hk.out; omega)
      have hv := h0.out.cell (i := t + j) (by have := hk.out; omega) hc
      have hji : (j : Int) < (k : Int) := by omega
      go_wp2_with fail
      refine (reduce1_any _ m _ gc c _ _ h1 hv hc).mono ?_
      by_cases hz0 : Z (t + j) c = 0
      · have hd : Hid (∀ i, t ≤ i → i < t + (j + 1) → Z i c = 0) := fun i a b => by
          by_cases e : i = t + j
          · rw [e]; exact hz0
          · exact hz.out i a (by omega)
        rw [hz0]
        rintro e w1 ⟨rfl, rfl⟩
        clear hz0
        go_wp2
        go_round
        case rel => exact ⟨j + 1, by go_num, by omega, hd⟩
        case measure => simp [intOf]; omega
      · have hp := pv_found (k := k) hlt hz.out hz0
        have hv2 : Hid (ixV t (pv Z c t k) = j) := by rw [hp]; show ((t + j : Nat) : Int) - (t : Int) = j; omega
        rw [decide_eq_true hz0]
        rintro e w1 ⟨rfl, rfl⟩
        clear hz0 hp
        go_wp2
        go_ret
        exact ⟨ret1 hv2.out.symm, rfl⟩
    · have hjk : j = k := by omega
      subst hjk
      have hp := pv_none hz.out
      have hv2 : Hid (ixV t (pv Z c t j) = -1) := by rw [hp]; rfl
      clear hp
      have hji : ¬ (j : Int) < (j : Int) := by omega
      go_wp2
      go_ret
      exact ⟨ret1 hv2.out.symm, rfl⟩
theorem inv_ok (a : Nat) (ha : a < 256) (a0 : a ≠ 0) (w : World) :
    Calls Try.prog 81 #[.int .i64 a] w fun e w' => e = .returned (.tuple #[.int .i64 (divN 1 a : Nat), .int .i64 0]) ∧ New w w' := by
  have h := Inv_any a w (by omega) (by omega)
  have hb : isB (1 : Int) ∧ isB (a : Int) := ⟨by unfold isB; omega, isB_of ha⟩
  have h1 : divV 1 a = (divN 1 a : Nat) := by unfold divV; rw [if_pos hb, if_neg (by omega)]; simp
  have h2 : divE 1 a = 0 := by unfold divE; rw [if_pos hb, if_neg (by omega)]
  rw [h1, h2] at h
  exact h
theorem stP_full {Z0 : Nat → Nat → Nat} {n c : Nat} (h : (stP Z0 n c).2 = n) : ∀ d, stP Z0 n (c + d) = stP Z0 n c
  | 0 => rfl
  | d + 1 => by
    have ih := stP_full h d
    have hp : pv (stP Z0 n (c + d)).1 (c + d) (stP Z0 n (c + d)).2 (n - (stP Z0 n (c + d)).2) = none := by
      rw [ih, h, Nat.sub_self]; rfl
    rw [show c + (d + 1) = c + d + 1 by omega, stP_none hp, ih]
/-- the matrix, and the column's number in a block of its own -/
structure RSt (w0 : World) (B H o n m gc c : Nat) (G C : Nat → Nat) (Z : Nat → Nat → Nat) (w : World) : Prop where
  mx : Mx w B H o n m G C Z
  bk : Blk w gc 3 #[.int .i64 c]
  bl : Below B w0 w
  hs : H ≤ w.heap.size
  hg : H ≤ gc
section
variable {w0 w w' : World} {B H o n m gc c : Nat} {G C : Nat → Nat} {Z Y : Nat → Nat → Nat}
theorem RSt.hB (h : RSt w0 B H o n m gc c G C Z w) : B ≤ w.heap.size := by have := h.mx.ob; have := h.hs; omega
theorem RSt.new (h : RSt w0 B H o n m gc c G C Z w) (hn : New w w') : RSt w0 B H o n m gc c G C Z w' :=
  ⟨h.mx.new h.hs hn, h.bk.new hn, Below.next h.bl hn h.hB, Nat.le_trans h.hs hn.size, h.hg⟩
theorem RSt.congr (h : RSt w0 B H o n m gc c G C Z w) (he : ∀ i k, i < n → k < m → Z i k = Y i k) : RSt w0 B H o n m gc c G C Y w := ⟨h.mx.congr he, h.bk, h.bl, h.hs, h.hg⟩
theorem RSt.drew (h : RSt w0 B H o n m gc c G C Z w) : RSt w0 B H o n m gc c G C Z w.drew := h.new (New.refl w).drew
theorem RSt.set (h : RSt w0 B H o n m gc c G C Z w) {i k : Nat} (hi : i < n) (y : Nat) : RSt w0 B H o n m gc c G C (fun i' k' => if i' = i ∧ k' = k then y else Z i' k') (w.setCell ⟨G i, k, none⟩ (.int .i64 y)) :=
  ⟨h.mx.set hi y, h.bk.far (by have := h.mx.gb i hi; have := h.hg; simp; omega) _, h.bl.setCell (h.mx.gb i hi).1 _, by simpa [World.setCell] using h.hs, h.hg⟩
theorem RSt.swap (h : RSt w0 B H o n m gc c G C Z w) {a b : Nat} (ha : a < n) (hb : b < n) : RSt w0 B H o n m gc c (swpN G a b) (swpN C a b) (swp Z a b) ((w.setCell ⟨o, a, none⟩ (.slice (some ⟨G b, 0, none⟩) m (C b))).setCell ⟨o, b, none⟩ (.slice (some ⟨G a, 0, none⟩) m (C a))) :=
  ⟨h.mx.swap ha hb, (h.bk.far (by have := h.mx.ob; have := h.hg; simp; omega) _).far (by have := h.mx.ob; have := h.hg; simp; omega) _, (h.bl.setCell h.mx.ob.1 _).setCell h.mx.ob.1 _, by simpa [World.setCell] using h.hs, h.hg⟩
theorem RSt.cc (h : RSt w0 B H o n m gc c G C Z w) : w.cell? ⟨gc, 0, none⟩ = some (.int .i64 c) := by have := h.bk.cell 0; simpa using this
theorem RSt.next (h : RSt w0 B H o n m gc c G C Z w) (c' : Nat) : RSt w0 B H o n m w.heap.size c' G C Z (w.alloc (.cells #[.int .i64 c'] 3)) :=
  ⟨h.mx.new h.hs ((New.refl w).alloc _), Blk.fresh w _ _, Below.next h.bl ((New.refl w).alloc _) h.hB, by have := h.hs; simp; omega, h.hs⟩
end
def RedPost (B H o n m : Nat) (Z : Nat → Nat → Nat) (t : Nat) (w : World) (e : Ending) (w' : World) : Prop :=
  (∃ G C, Mx w' B H o n m G C Z) ∧ e = .returned (.int .i64 t) ∧ Below B w w' ∧ H ≤ w'.heap.size
set_option maxRecDepth 100000 in
set_option maxHeartbeats 4000000 in
theorem reduce_any (B H o n m cap cols : Nat) (G0 C0 : Nat → Nat) (Z0 : Nat → Nat → Nat) (w : World) (h : Mx w B H o n m G0 C0 Z0) (hH : H ≤ w.heap.size) (hn : n ≤ 8) (hm : m ≤ 16) (hcols : cols ≤ m) (hcap : n ≤ cap) (hb : bytesP Z0 n m) :
    Calls Try.prog 74 #[.slice (some ⟨o, 0, none⟩) n cap, .int .i64 cols] w (RedPost B H o n m (stP Z0 n cols).1 (stP Z0 n cols).2 w) := by
  have h0 := Lib.hid h
  have hb0 := Lib.hid hb
  have hBH : B ≤ w.heap.size := by have := h.ob; omega
  clear h hb
  go_enter Try.func74, Try.ntmps74
  go_wp2
  go_loopg [5, 6] cols (fun gk r p wr => ∃ (c gc t : Nat) (G C : Nat → Nat) (Z : Nat → Nat → Nat), Hid (gk = cols - c) ∧ r = .int .i64 t ∧ p = .pointer (some ⟨gc, 0, none⟩) ∧ c ≤ cols ∧ t ≤ n ∧ Hid (stP Z0 n c = (Z, t)) ∧ Hid (RSt w B H o n m gc c G C Z wr))
  case atStart =>
    exact ⟨0, w.heap.size, 0, G0, C0, Z0, rfl, rfl, rfl, by omega, by omega, rfl, ⟨h0.out.new hH ((New.refl w).alloc _), Blk.fresh w _ _, (Below.refl B w).alloc hBH _, by simp; omega, hH⟩⟩
  case round =>
    obtain ⟨c, gc, t, G, C, Z, hgk, rfl, rfl, hc, ht, hst, hrs⟩ := hrel
    have hby : Hid (bytesP Z n m) := by have := (stP_bytes hb0.out c (by omega)).1; rw [hst.out] at this; exact this
    have hcc := hrs.out.cc
    have hcf := hrs.out.bk.frozen 0
    have hmx := Lib.hid hrs.out.mx
    by_cases hgo : c < cols ∧ t < n
    · obtain ⟨hlt, htn⟩ := hgo
      have hci : (c : Int) < (cols : Int) := by omega
      have hti : (t : Int) < (n : Int) := by omega
      have hte : ¬ cap = t := by omega
      have hix := index_any B H o n m G C Z t (n - t) (cap - t) gc c wr hmx.out (by omega) hn (by omega) hcc
      replace hix := Lib.hid hix
      go_wp2_with fail
      refine hix.out.mono ?_
      cases hp : pv Z c t (n - t) with
      | none =>
        rintro e w1 ⟨rfl, rfl⟩
        have hst2 : Hid (stP Z0 n (c + 1) = (Z, t)) := by
          have h1 : pv (stP Z0 n c).1 c (stP Z0 n c).2 (n - (stP Z0 n c).2) = none := by rw [hst.out]; exact hp
          show _ = _
          rw [stP_none h1]; exact hst.out
        clear hp
        have hneg : ixV t none = -1 := rfl
        rw [hneg]
        clear hneg
        go_wp2
        go_roundg (cols - (c + 1))
        case measure => have := hgk.out; omega
        case rel =>
          exact ⟨c + 1, wr.heap.size, t, G, C, Z, rfl, rfl, rfl, by omega, ht, hst2, hrs.out.next (c + 1)⟩
      | some p =>
        rintro e w1 ⟨rfl, rfl⟩
        obtain ⟨g1, g2, g3⟩ := pv_some hp
        have hst2 : Hid (stP Z0 n (c + 1) = (eliP (scaP (swp Z t p) c t) c t, t + 1)) := by
          have h1 : pv (stP Z0 n c).1 c (stP Z0 n c).2 (n - (stP Z0 n c).2) = some p := by rw [hst.out]; exact hp
          show _ = _
          rw [stP_some h1, hst.out]
        obtain ⟨a, rfl⟩ : ∃ a, p = t + a := ⟨p - t, by omega⟩
        have hix2 : ixV t (some (t + a)) = (a : Int) := by show ((t + a : Nat) : Int) - (t : Int) = a; omega
        rw [hix2]
        clear hix2 hp g1
        have hpn : t + a < n := by omega
        have hao := hmx.out.cellO (i := t + a) hpn
        have hto := hmx.out.cellO (i := t) htn
        have hfo := hmx.out.frozenO t
        have hfo2 := hmx.out.frozenO (t + a)
        have e1 : IntKind.i64.wrap ((t : Int) + (a : Int)) = (t : Int) + (a : Int) := IntWalk.i64_in _ (by omega)
        have e2 : (0 : Int) ≤ (t : Int) + (a : Int) := by omega
        have e3 : ((t : Int) + (a : Int)).toNat = t + a := by omega
        have e4 : (t : Int) + (a : Int) < (n : Int) := by omega
        have e5 : ¬ ((a : Int) < 0) := by omega
        obtain ⟨X, hX⟩ : ∃ X, (wr.setCell ⟨o, t, none⟩ (.slice (some ⟨G (t + a), 0, none⟩) m (C (t + a)))).cell? ⟨o, t + a, none⟩ = some X := hmx.out.set_some hpn t _
        have hXf : (wr.setCell ⟨o, t, none⟩ (.slice (some ⟨G (t + a), 0, none⟩) m (C (t + a)))).frozen? ⟨o, t + a, none⟩ = false := hmx.out.set_frozen t _ (t + a)
        have hsw := Lib.hid (hrs.out.swap htn hpn).drew
        go_wp2_with fail
        go_region
        clear hX hXf hao hto hfo hfo2 e1 e2 e3 e4 e5 hcc hcf hmx hrs hix hst
        obtain ⟨W1, hW1⟩ : ∃ W1, W1 = ((wr.setCell ⟨o, t, none⟩ (.slice (some ⟨G (t + a), 0, none⟩) m (C (t + a)))).setCell ⟨o, t + a, none⟩ (.slice (some ⟨G t, 0, none⟩) m (C t))).drew := ⟨_, rfl⟩
        rw [← hW1] at hsw ⊢
        have hb1 := Lib.hid (swp_bytes hby.out htn hpn)
        have hq0 : swp Z t (t + a) t c ≠ 0 := by unfold swp; rw [if_pos rfl]; exact g3
        obtain ⟨Z1, hZ1⟩ : ∃ Z1, Z1 = swp Z t (t + a) := ⟨_, rfl⟩
        obtain ⟨G1, hG1⟩ : ∃ G1, G1 = swpN G t (t + a) := ⟨_, rfl⟩
        obtain ⟨C1, hC1⟩ : ∃ C1, C1 = swpN C t (t + a) := ⟨_, rfl⟩
        rw [← hZ1] at hsw hb1 hq0 hst2
        rw [← hG1, ← hC1] at hsw
        clear hW1 hZ1 hG1 hC1 g3 hby g2 hpn X
        have hcc := hsw.out.cc
        have hto := hsw.out.mx.cellO htn
        have hx := hsw.out.mx.cell htn (show c < m by omega)
        obtain ⟨q, hq⟩ : ∃ q, Hid (q = Z1 t c) := ⟨_, rfl⟩
        rw [← hq.out] at hx hq0
        have hql : q < 256 := by rw [hq.out]; exact hb1.out t c htn (by omega)
        have hcm : (c : Int) < (m : Int) := by omega
        go_wp2_with fail
        refine (inv_ok q hql hq0 _).mono ?_
        obtain ⟨iv, hiv⟩ : ∃ iv, Hid (iv = divN 1 q) := ⟨_, rfl⟩
        have hivl : iv < 256 := by rw [hiv.out]; exact divN_lt _ _
        rw [← hiv.out]
        rintro e W2 ⟨rfl, hn2⟩
        have hs2 := Lib.hid (hsw.out.new hn2)
        clear hcc hto hx hsw hn2
        go_wp2_with fail
        go_loopw [66] (fun x wr => ∃ k : Nat, x = .int .i64 k ∧ k ≤ m ∧ Hid (RSt w B H o n m gc c G1 C1 (fun i k' => if i = t ∧ k' < k then mul (Z1 t k') iv else Z1 i k') wr)) (fun x _ => m - (intOf x).toNat)
        case atStart => exact ⟨0, rfl, Nat.zero_le _, hs2.out.congr fun i k _ _ => by rw [if_neg (by omega)]⟩
        case round =>
          clear hs2
          obtain ⟨k, rfl, hk, hs2⟩ := hrel
          by_cases hkm : k < m
          · have hy := hs2.out.mx.cell htn hkm
            rw [if_neg (by omega)] at hy
            obtain ⟨y, hye⟩ : ∃ y, Hid (y = Z1 t k) := ⟨_, rfl⟩
            rw [← hye.out] at hy
            have hyl : y < 256 := by rw [hye.out]; exact hb1.out t k htn hkm
            have hki : (k : Int) < (m : Int) := by omega
            go_wp2_with fail
            refine (times_ok y iv hyl hivl _).mono ?_
            obtain ⟨v, hv⟩ : ∃ v, Hid (v = mul y iv) := ⟨_, rfl⟩
            rw [← hv.out]
            rintro e W3 ⟨rfl, hn3⟩
            have hs3 := Lib.hid (hs2.out.new hn3)
            have hy3 := (hn3.cell (lt_of_cell hy)).trans hy
            have hf3 := hs3.out.mx.frozen htn k
            have hs4 := Lib.hid ((hs3.out.set htn (k := k) v).congr (Y := fun i k' => if i = t ∧ k' < k + 1 then mul (Z1 t k') iv else Z1 i k') fun i k' _ _ => by
              by_cases h1 : i = t ∧ k' = k
              · rw [if_pos h1, if_pos ⟨h1.1, by omega⟩, h1.2, hv.out, hye.out]
              · rw [if_neg h1]
                by_cases h2 : i = t ∧ k' < k
                · rw [if_pos h2, if_pos ⟨h2.1, by omega⟩]
                · rw [if_neg h2, if_neg (by omega)])
            clear hn3 hy hs3 hs2
            go_wp2
            go_roundw
            case rel => exact ⟨k + 1, by go_num, by omega, hs4.out⟩
            case measure => simp [intOf]; omega
          · have hkm2 : k = m := by omega
            obtain ⟨Z2, hZ2⟩ : ∃ Z2, Hid (Z2 = scaP Z1 c t) := ⟨_, rfl⟩
            have hs5 : Hid (RSt w B H o n m gc c G1 C1 Z2 wr) := hs2.out.congr fun i k' _ hk' => by
              rw [hZ2.out]
              unfold scaP
              by_cases h1 : i = t
              · rw [if_pos ⟨h1, by omega⟩, if_pos h1, hiv.out, hq.out]
              · rw [if_neg (fun h => h1 h.1), if_neg h1]
            have hb2 : Hid (bytesP Z2 n m) := by rw [hZ2.out]; exact scaP_bytes hb1.out htn
            rw [← hZ2.out] at hst2
            clear hs2 hb1 hq hiv hivl hZ2 hq0 hql
            have hki : ¬ (k : Int) < (m : Int) := by omega
            clear hkm hkm2
            go_wp2_with fail
            go_loopw [81] (fun x wr => ∃ i : Nat, x = .int .i64 i ∧ i ≤ n ∧ Hid (RSt w B H o n m gc c G1 C1 (fun i' k' => if i' < i then eliP Z2 c t i' k' else Z2 i' k') wr)) (fun x _ => n - (intOf x).toNat)
            case atStart => exact ⟨0, rfl, Nat.zero_le _, hs5.out.congr fun i k _ _ => by rw [if_neg (by omega)]⟩
            case round =>
              clear hs5
              obtain ⟨i, rfl, hi, hs6⟩ := hrel
              by_cases hin : i < n
              · have hcc := hs6.out.cc
                have hio := hs6.out.mx.cellO hin
                have hf := hs6.out.mx.cell hin (show c < m by omega)
                rw [if_neg (by omega)] at hf
                have hii : (i : Int) < (n : Int) := by omega
                have hsame : (i = t ∨ Z2 i c = 0) → Hid (RSt w B H o n m gc c G1 C1 (fun i' k' => if i' < i + 1 then eliP Z2 c t i' k' else Z2 i' k') wr) := fun h => hs6.out.congr fun i' k' _ _ => by
                  by_cases h1 : i' < i
                  · rw [if_pos h1, if_pos (by omega)]
                  · rw [if_neg h1]
                    by_cases h2 : i' = i
                    · subst h2
                      rw [if_pos (by omega)]
                      unfold eliP
                      by_cases h3 : i' = t
                      · rw [if_pos h3]
                      · rw [if_neg h3, if_pos (h.resolve_left h3)]
                    · rw [if_neg (by omega)]
                by_cases hit : i = t
                · have hs7 := hsame (.inl hit)
                  have hte2 : ((i : Int) == (t : Int)) = true := by rw [hit]; simp
                  clear hsame hs6
                  subst hit
                  go_wp2
                  go_roundw
                  case rel => exact ⟨i + 1, by go_num, by omega, hs7.out⟩
                  case measure => simp [intOf]; omega
                · have hte2 : ((i : Int) == (t : Int)) = false := by simp; omega
                  have hte3 : ¬ ((i : Int) = (t : Int)) := by omega
                  obtain ⟨f, hfe⟩ : ∃ f, Hid (f = Z2 i c) := ⟨_, rfl⟩
                  rw [← hfe.out] at hf hsame
                  have hfl : f < 256 := by rw [hfe.out]; exact hb2.out i c hin (by omega)
                  by_cases hf0 : f = 0
                  · have hs7 := hsame (.inr hf0)
                    clear hsame hs6
                    subst hf0
                    go_wp2
                    go_roundw
                    case rel => exact ⟨i + 1, by go_num, by omega, hs7.out⟩
                    case measure => simp [intOf]; omega
                  · clear hsame
                    have hfi : ((f : Int) == 0) = false := by simp; omega
                    have hfi2 : ¬ ((f : Int) = 0) := by omega
                    go_wp2_with fail
                    go_loopw [102] (fun x wr => ∃ k : Nat, x = .int .i64 k ∧ k ≤ m ∧ Hid (RSt w B H o n m gc c G1 C1 (fun i' k' => if i' < i then eliP Z2 c t i' k' else if i' = i ∧ k' < k then eliP Z2 c t i k' else Z2 i' k') wr)) (fun x _ => m - (intOf x).toNat)
                    case atStart => exact ⟨0, rfl, Nat.zero_le _, hs6.out.congr fun i' k _ _ => by
                      by_cases h1 : i' < i
                      · rw [if_pos h1, if_pos h1]
                      · rw [if_neg h1, if_neg h1, if_neg (by omega)]⟩
                    case round =>
                      clear hs6 hcc hio hf
                      obtain ⟨k, rfl, hk, hs6⟩ := hrel
                      by_cases hkm : k < m
                      · have hx := hs6.out.mx.cell hin hkm
                        rw [if_neg (by omega), if_neg (by omega)] at hx
                        have hT := hs6.out.mx.cell htn hkm
                        have eT : (if t < i then eliP Z2 c t t k else if t = i ∧ k < k then eliP Z2 c t i k else Z2 t k) = Z2 t k := by
                          have : eliP Z2 c t t k = Z2 t k := if_pos rfl
                          rw [this, if_neg (c := t = i ∧ k < k) (by omega)]
                          split <;> rfl
                        rw [eT] at hT
                        clear eT
                        obtain ⟨x, hxe⟩ : ∃ x, Hid (x = Z2 i k) := ⟨_, rfl⟩
                        obtain ⟨y, hye⟩ : ∃ y, Hid (y = Z2 t k) := ⟨_, rfl⟩
                        rw [← hxe.out] at hx
                        rw [← hye.out] at hT
                        have hxl : x < 256 := by rw [hxe.out]; exact hb2.out i k hin hkm
                        have hyl : y < 256 := by rw [hye.out]; exact hb2.out t k htn hkm
                        obtain ⟨v, hv⟩ : ∃ v, Hid (v = mul f y) := ⟨_, rfl⟩
                        have hvl : v < 256 := by rw [hv.out]; exact mul_lt _ _ hfl
                        have hxor := i64_xor_nat x v (by omega) (by omega)
                        have htm : Hid (∀ w, Calls Try.prog 82 #[.int .i64 f, .int .i64 y] w fun e w' => e = .returned (.int .i64 v) ∧ New w w') := fun w => by rw [hv.out]; exact times_ok f y hfl hyl w
                        have q0 := NewW.keep hx
                        have q1 := NewW.keep hT
                        have a1 : (0 : Int) ≤ (k : Int) := by omega
                        have a2 : (k : Int) < (m : Int) := by omega
                        go_wp2
                        (refine wp_region_new_tail 11 (by kernel_rfl) (by kernel_rfl) ?_; simp only [List.take_succ_cons, List.take_zero, List.drop_succ_cons, List.drop_zero]; (repeat (first | go_big_quiet_step (first | (go_at_call 82; exact NewW.call _ (htm.out _))) | quiet_step (first | (go_at_call 82; exact NewW.call _ (htm.out _))))); refine wpQuiet_nil ?_; rintro W3 ⟨⟨_, hn_W3⟩, rfl⟩)
                        have hs7 := hs6.out.new hn_W3
                        have hx3 := (hn_W3.cell (lt_of_cell hx)).trans hx
                        have hf3 := hs7.mx.frozen hin k
                        have hs8 := Lib.hid ((hs7.set hin (k := k) (x ^^^ v)).congr (Y := fun i' k' => if i' < i then eliP Z2 c t i' k' else if i' = i ∧ k' < k + 1 then eliP Z2 c t i k' else Z2 i' k') fun i' k' _ _ => by
                          by_cases h1 : i' = i ∧ k' = k
                          · rw [if_pos h1, if_neg (by omega), if_pos ⟨h1.1, by omega⟩, h1.2]
                            unfold eliP
                            rw [if_neg hit, if_neg (by rw [← hfe.out]; exact hf0), hxe.out, hv.out, hye.out, hfe.out]
                          · rw [if_neg h1]
                            by_cases h2 : i' < i
                            · rw [if_pos h2, if_pos h2]
                            · rw [if_neg h2, if_neg h2]
                              by_cases h3 : i' = i ∧ k' < k
                              · rw [if_pos h3, if_pos ⟨h3.1, by omega⟩]
                              · rw [if_neg h3, if_neg (by omega)])
                        clear hs7 hs6 hx hT
                        go_wp2
                        go_roundw
                        case rel => exact ⟨k + 1, by go_num, by omega, hs8.out⟩
                        case measure => simp [intOf]; omega
                      · have hs8 : Hid (RSt w B H o n m gc c G1 C1 (fun i' k' => if i' < i + 1 then eliP Z2 c t i' k' else Z2 i' k') wr) := hs6.out.congr fun i' k' _ hk' => by
                          by_cases h1 : i' < i
                          · rw [if_pos h1, if_pos (by omega)]
                          · rw [if_neg h1]
                            by_cases h2 : i' = i
                            · subst h2
                              rw [if_pos ⟨rfl, by omega⟩, if_pos (by omega)]
                            · rw [if_neg (fun h => h2 h.1), if_neg (by omega)]
                        have hki : ¬ (k : Int) < (m : Int) := by omega
                        clear hs6 hkm
                        go_wp2
                        go_roundw
                        case rel => exact ⟨i + 1, by go_num, by omega, hs8.out⟩
                        case measure => simp [intOf]; omega
              · have hs9 : Hid (RSt w B H o n m gc c G1 C1 (eliP Z2 c t) wr) := hs6.out.congr fun i' k' hi' _ => by rw [if_pos (by omega)]
                have hii : ¬ (i : Int) < (n : Int) := by omega
                have hcc := hs9.out.cc
                have hcf := hs9.out.bk.frozen 0
                clear hs6 hin
                go_wp2
                go_roundg (cols - (c + 1))
                case measure => have := hgk.out; omega
                case rel => exact ⟨c + 1, wr.heap.size, t + 1, G1, C1, _, rfl, by go_num, rfl, by omega, by omega, hst2, hs9.out.next (c + 1)⟩
    · have hfin : Hid (stP Z0 n cols = (Z, t)) := by
        by_cases hcc2 : c = cols
        · rw [← hcc2]; exact hst.out
        · have ht2 : (stP Z0 n c).2 = n := by rw [hst.out]; simp only; omega
          have h1 := stP_full ht2 (cols - c)
          rw [show c + (cols - c) = cols by omega] at h1
          show _ = _
          rw [h1]; exact hst.out
      have hret : Hid (Ending.returned (.int .i64 (t : Nat)) = .returned (.int .i64 ((stP Z0 n cols).2 : Nat))) := by rw [hfin.out]; rfl
      have hmx2 : Hid (Mx wr B H o n m G C (stP Z0 n cols).1) := by rw [hfin.out]; exact hmx.out
      by_cases hlt : c < cols
      · have hci : (c : Int) < (cols : Int) := by omega
        have hti : ¬ (t : Int) < (n : Int) := by omega
        clear hgo
        go_wp2
        go_ret
        exact ⟨⟨G, C, hmx2.out⟩, hret.out, hrs.out.bl, hrs.out.hs⟩
      · have hci : ¬ (c : Int) < (cols : Int) := by omega
        clear hgo
        go_wp2
        go_ret
        exact ⟨⟨G, C, hmx2.out⟩, hret.out, hrs.out.bl, hrs.out.hs⟩
end Go.Proofs.Ytjmjnodaohbpfaa.mat
