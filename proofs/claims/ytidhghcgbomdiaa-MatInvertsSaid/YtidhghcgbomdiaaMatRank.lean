/-
  Contracts: the rank of a matrix, by the two texts.
-/
import Derived.Test.YtidhghcgbomdiaaMatSwept
import Derived.Deep.RegionHeld3
namespace Go.Proofs.Ytidhghcgbomdiaa.mat
open Go.ChangeShapes Go.WideShapes Go.ChangeAt Go.RowKit Go.Proofs.Ytidhghcgbomdiaa.kit Go.Proofs.Ytidhghcgbomdiaa.gf Go.Deep
set_option linter.unusedVariables false

def rkVal (n : Nat) (L : Nat → Nat) (M : Nat → Nat → Int) : Int := if mayM n L M = true then ((stR (fun i k => elN M i k) n (L 0)).2 : Nat) else 0
def rkCode (n : Nat) (L : Nat → Nat) (M : Nat → Nat → Int) : Int := if mayM n L M = true then 0 else 4
theorem elN_bytes {n m : Nat} {L : Nat → Nat} {M : Nat → Nat → Int} (hm : mayM n L M = true) (hL : L 0 = m) : bytesP (fun i k => elN M i k) n m := fun i k hi hk => by
  have h1 := (mayM_out hm).2.2 i hi
  have := allE_out h1.2.2.2 k (by have := h1.1; omega)
  unfold elP at this
  show (M i k).toNat < 256
  omega
theorem besZ_bytes {n m more : Nat} {L : Nat → Nat} {M : Nat → Nat → Int} (hm : mayM n L M = true) (hL : L 0 = m) : bytesP (besZ M m more) n (m + more) := fun i k hi hk => by
  unfold besZ
  split
  · exact elN_bytes hm hL i k hi (by assumption)
  · split <;> omega
set_option maxRecDepth 100000 in
theorem MatRank_any (A : Option Addr) (n c : Nat) (R : Nat → Option Addr) (L C : Nat → Nat) (M : Nat → Nat → Int) (w : World) (h : RdM .i64 w A n R L C M) :
    Calls Try.prog 36 #[.slice A n c] w fun e w' => e = .returned (.tuple #[.int .i64 (rkVal n L M), .int .i64 (rkCode n L M)]) ∧ New w w' := by
  have h0 := Lib.hid h
  obtain ⟨rv, hrv⟩ : ∃ rv, Hid (rv = rkVal n L M) := ⟨_, rfl⟩
  obtain ⟨cd, hcd⟩ : ∃ cd, Hid (cd = rkCode n L M) := ⟨_, rfl⟩
  rw [← hrv.out, ← hcd.out]
  clear h
  cases hm : mayM n L M with
  | false =>
    have e1 : rv = 0 := by rw [hrv.out]; unfold rkVal; simp [hm]
    have e2 : cd = 4 := by rw [hcd.out]; unfold rkCode; simp [hm]
    subst e1 e2
    go_enter Try.func36, Try.ntmps36
    go_wp2_with fail
    refine (MatMay_any _ _ _ _ _ _ _ _ h0.out).mono ?_
    rw [hm]
    rintro e w1 ⟨rfl, rfl⟩
    go_wp2
    go_ret2
    exact ⟨rfl, New.refl _⟩
  | true =>
    have e1 : Hid (rv = ((stR (fun i k => elN M i k) n (L 0)).2 : Nat)) := by
      show _ = _
      rw [hrv.out]; unfold rkVal; rw [if_pos hm]
    have e2 : cd = 0 := by rw [hcd.out]; unfold rkCode; simp [hm]
    subst e2
    have hm0 := Lib.hid hm
    have hsw := swept_any A n c (L 0) R L C M w h0.out hm rfl
    rw [← e1.out] at hsw
    replace hsw := Lib.hid hsw
    clear hm
    go_enter Try.func36, Try.ntmps36
    go_wp2_with fail
    refine (MatMay_any _ _ _ _ _ _ _ _ h0.out).mono ?_
    rw [hm0.out]
    rintro e w1 ⟨rfl, rfl⟩
    go_wp2_with fail
    refine hsw.out.mono ?_
    rintro e w2 ⟨rfl, hn2⟩
    go_wp2
    go_ret2
    exact ⟨rfl, hn2⟩
set_option maxRecDepth 100000 in
set_option maxHeartbeats 1000000 in
theorem Rank_any (A : Option Addr) (n c : Nat) (R : Nat → Option Addr) (L C : Nat → Nat) (M : Nat → Nat → Int) (w : World) (h : RdM .i64 w A n R L C M) :
    Calls Try.prog 35 #[.slice A n c] w fun e w' => e = .returned (.tuple #[.int .i64 (rkVal n L M), .int .i64 (rkCode n L M)]) ∧ New w w' := by
  have h0 := Lib.hid h
  obtain ⟨rv, hrv⟩ : ∃ rv, Hid (rv = rkVal n L M) := ⟨_, rfl⟩
  obtain ⟨cd, hcd⟩ : ∃ cd, Hid (cd = rkCode n L M) := ⟨_, rfl⟩
  rw [← hrv.out, ← hcd.out]
  clear h
  cases hm : mayM n L M with
  | false =>
    have e1 : rv = 0 := by rw [hrv.out]; unfold rkVal; simp [hm]
    have e2 : cd = 4 := by rw [hcd.out]; unfold rkCode; simp [hm]
    subst e1 e2
    go_enter Try.func35, Try.ntmps35
    go_wp2_with fail
    refine (May_any _ _ _ _ _ _ _ _ h0.out).mono ?_
    rw [hm]
    rintro e w1 ⟨rfl, rfl⟩
    go_wp2
    go_ret2
    exact ⟨rfl, New.refl _⟩
  | true =>
    have e2 : cd = 0 := by rw [hcd.out]; unfold rkCode; simp [hm]
    subst e2
    obtain ⟨hn1, hn8, hrow⟩ := mayM_out hm
    obtain ⟨m, hme⟩ : ∃ m, m = L 0 := ⟨_, rfl⟩
    have hm1 : 1 ≤ m := by have := (hrow 0 (by omega)).2.1; omega
    have hm8 : m ≤ 8 := by have := (hrow 0 (by omega)).2.2.1; omega
    obtain ⟨tq, htq⟩ : ∃ tq, Hid (tq = (stP (besZ M m 0) n m).2) := ⟨_, rfl⟩
    have e1 : rv = (tq : Nat) := by
      rw [htq.out, hrv.out]; unfold rkVal; rw [if_pos hm, ← hme]
      have := (rank_same (elN_bytes hm hme.symm) (Y0 := besZ M m 0) (besZ_bytes (more := 0) hm hme.symm) (fun i k _ hk => by unfold besZ; rw [if_pos hk]) m (Nat.le_refl _)).1
      rw [this]
    subst e1
    obtain ⟨b, off, rfl, hb, hcs⟩ := h0.out.2.1 (by omega)
    have z0 := hcs 0 (by omega)
    rw [← hme] at z0
    simp at z0
    have hbes := Lib.hid (fun w1 (hn : New w w1) => beside_any (some ⟨b, off, none⟩) n c m 0 R L C M w1 (h0.out.new hn) hm hme.symm (.inl rfl))
    have hby := Lib.hid (besZ_bytes (n := n) (m := m) (more := 0) hm hme.symm)
    have hm0 := Lib.hid hm
    have hkeep : Hid (∀ w', New w w' → New w w' ∧ w'.cell? ⟨b, off, none⟩ = some (.slice (R 0) m (C 0))) := fun w' h => ⟨h, (h.cell hb).trans z0⟩
    clear hm hme hrow hcs
    go_enter Try.func35, Try.ntmps35
    go_wp2_with fail
    refine (May_any _ _ _ _ _ _ _ _ h0.out).mono ?_
    rw [hm0.out]
    rintro e w1 ⟨rfl, rfl⟩
    have hn0 : 0 < n := by omega
    have hn0i : (0 : Int) < (n : Int) := by omega
    go_wp2_with fail
    go_region_held3 (fun w' => New w w' ∧ w'.cell? ⟨b, off, none⟩ = some (.slice (R 0) m (C 0)))
      (first
        | exact hkeep.out _ (New.refl _).drew
        | assumption
        | exact hkeep.out _ hn5
        | exact hkeep.out _ (New.next (And.left ‹New w _ ∧ _›) hnC))
      (first
        | (go_at_call 51; refine (hbes.out _ (And.left ‹New w _ ∧ _›)).mono ?_; rintro e wC ⟨o, cap, G, C1, rfl, hcap, hmx, hnC⟩)
        | (go_at_call 52; refine (reduce_any _ _ o n (m + 0) cap m G C1 (besZ M m 0) _ hmx (Nat.le_refl _) (by omega) (by omega) (by omega) hcap hby.out).mono ?_; rw [← htq.out]; rintro e w5 ⟨_, rfl, hbl5, _⟩; have hn5 : New w w5 := Below.trans (b := wC) (And.left ‹New w wC ∧ _›) hbl5))
    all_goals go_wp2
    all_goals go_ret2
    all_goals exact ⟨rfl, hn5⟩
end Go.Proofs.Ytidhghcgbomdiaa.mat
