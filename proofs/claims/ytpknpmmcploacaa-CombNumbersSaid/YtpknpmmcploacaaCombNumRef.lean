/-
  Contract of the reference's CombNumber.
-/
import Derived.Test.YtpknpmmcploacaaCombNum
namespace Go.Proofs.Ytpknpmmcploacaa.comb
open Go.ChangeShapes Go.WideShapes Go.ChangeAt Go.RowKit Go.Proofs.Ytpknpmmcploacaa.kit Go.Deep
set_option linter.unusedVariables false

/-- are the first places alike? -/
def eqU (l : List Nat) (Z : Nat → Int) : Nat → Bool
  | 0 => true
  | j + 1 => eqU l Z j && ((l.getD j 0 : Nat) : Int) == Z j
theorem eqU_iff (l : List Nat) (Z : Nat → Int) : ∀ j, eqU l Z j = true ↔ ∀ q, q < j → ((l.getD q 0 : Nat) : Int) = Z q
  | 0 => by simp [eqU]
  | j + 1 => by
    unfold eqU
    rw [Bool.and_eq_true, eqU_iff l Z j, beq_iff_eq]
    constructor
    · rintro ⟨h1, h2⟩ q hq
      by_cases h : q = j
      · subst h; exact h2
      · exact h1 q (by omega)
    · intro h
      exact ⟨fun q hq => h q (by omega), h j (by omega)⟩
theorem eqU_all (l : List Nat) (Z : Nat → Int) (m : Nat) (hl : l.length = m) : eqU l Z m = true ↔ l.map (fun x : Nat => (x : Int)) = lst Z m 0 := by
  rw [eqU_iff]
  constructor
  · intro h
    apply List.ext_getElem (by rw [List.length_map, lst_len, hl]; rfl)
    intro q h1 h2
    have hq : q < m := by rw [List.length_map, hl] at h1; exact h1
    have := h q hq
    have e : l.getD q 0 = l[q]'(by omega) := by simp [hl, hq]
    rw [e] at this
    simp [lst, this]
  · intro h q hq
    have h1 : (l.map (fun x : Nat => (x : Int)))[q]? = (lst Z m 0)[q]? := by rw [h]
    have e : l.getD q 0 = l[q]'(by omega) := by simp [hl, hq]
    rw [e]
    simp [lst, hl, hq] at h1
    exact h1
set_option maxHeartbeats 1000000 in
theorem CombNumber_ok (n : Nat) (A : Option Addr) (m c : Nat) (Z : Nat → Int) (w : World) (hn : n ≤ 12) (hZ : RdI .i64 w A m Z) :
    Calls Try.prog 33 #[.int .i64 n, .slice A m c] w fun e w' => e = .returned (.tuple #[.int .i64 (outV (numF n 0 (lst Z m 0)) : Nat), .int .i64 (outE (numF n 0 (lst Z m 0)))]) ∧ New w w' := by
  have hm := hZ.1
  unfold maxLen at hm
  have hZ1 := Lib.hid hZ
  clear hZ
  obtain ⟨T, hT⟩ : ∃ T, Hid (T = numF n 0 (lst Z m 0)) := ⟨_, (rfl : _ = _)⟩
  rw [← hT.out]
  obtain ⟨rv, hrv⟩ : ∃ rv, Hid (rv = outV T) := ⟨_, (rfl : _ = _)⟩
  obtain ⟨re, hre⟩ : ∃ re, Hid (re = outE T) := ⟨_, (rfl : _ = _)⟩
  rw [← hrv.out, ← hre.out]
  by_cases hmn : (m : Int) ≤ (n : Int)
  · obtain ⟨L, hL⟩ : ∃ L, Hid (L = pickL n 0 m) := ⟨_, (rfl : _ = _)⟩
    have hpk : Hid (∀ w, Calls Try.prog 51 #[.int .i64 0, .int .i64 n, .int .i64 m] w (PickP n 0 m w)) := fun w => picks_ok n 0 m n (by omega) hn (by omega) w
    have hTL : Hid (T = (findI (lst Z m 0) (L.drop 0)).map (fun r => 0 + r)) := by
      have h1 := find_num n 0 (lst Z m 0) hn (by rw [lst_len]; omega)
      rw [lst_len, show m - 0 = m by omega] at h1
      rw [List.drop_zero, hL.out, h1, hT.out]
      cases numF n 0 (lst Z m 0) with
      | none => exact (rfl : _ = _)
      | some r => exact congrArg some (by show r = 0 + r; omega)
    have hLs : L.length ≤ 4096 := by
      rw [hL.out]; exact Nat.le_trans (pickL_size n 0 m) (Nat.pow_le_pow_right (by omega) hn)
    have hll : Hid (∀ l ∈ L, l.length = m) := by rw [hL.out]; exact pickL_len n 0 m
    go_enter Try.func33, Try.ntmps33
    go_wp2_with fail
    refine (hpk.out _).mono ?_
    rintro e w1 ⟨v1, vals1, rfl, ho1, ha1, hn1⟩
    rw [← hL.out] at ho1 ha1
    obtain ⟨A1, c1, rfl, hc1, hm1, hA1, hcell1⟩ := own_open ho1
    have hA1' := Lib.hid hA1
    have hcell1' := Lib.hid hcell1
    have ha1' := Lib.hid ha1
    have hvl : vals1.length = L.length := ha1.1
    clear ho1 ha1 hA1 hcell1
    go_wp2
    go_loopw [25] (fun c wr => ∃ i : Nat, c = .int .i64 i ∧ i ≤ L.length ∧ Hid (T = (findI (lst Z m 0) (L.drop i)).map (fun r => i + r)) ∧ New w1 wr) (fun c _ => L.length - (intOf c).toNat)
    case atStart => exact ⟨0, rfl, by omega, hTL, New.refl _⟩
    case round =>
      obtain ⟨i, rfl, hi, hin, hnw⟩ := hrel
      by_cases hilt : i < L.length
      · obtain ⟨g1, rfl, _, hg1⟩ := hA1'.out (by omega)
        have hpv : vals1[i]? = some (vals1[i]'(by omega)) := List.getElem?_eq_getElem (by omega)
        have hl1 : L[i]? = some (L[i]'hilt) := List.getElem?_eq_getElem hilt
        obtain ⟨bp, gp, cp, hpe, hpo⟩ := ha1'.out.2 i _ _ hpv hl1
        have hlk := hll.out _ (List.getElem_mem hilt)
        obtain ⟨l, hl⟩ : ∃ l, Hid (l = L[i]'hilt) := ⟨_, (rfl : _ = _)⟩
        have hdr : Hid (L.drop i = l :: L.drop (i + 1)) := by rw [hl.out]; exact List.drop_eq_getElem_cons hilt
        rw [← hl.out] at hpe hpo hlk hl1
        have c0 := (hnw.cell (p := ⟨g1, i, none⟩) hg1).trans (hcell1'.out g1 rfl i _ hpv)
        rw [hpe, hlk] at c0
        rw [hpe, hlk] at hpo
        have hpo1 := Lib.hid hpo
        have hlk1 := Lib.hid hlk
        clear hpe hpo hpv hl1 hlk
        have j0 : (0 : Int) ≤ (i : Int) := by omega
        have j1 : (i : Int) < (L.length : Int) := by omega
        obtain ⟨W0, hW0⟩ : ∃ W0, W0 = wr := ⟨_, rfl⟩
        subst hW0
        go_wp2
        go_loopw [32, 8] (fun c b wr => ∃ j : Nat, c = .int .i64 j ∧ b = .bool (eqU l Z j) ∧ j ≤ m ∧ New w1 wr) (fun c _ _ => m - (intOf c).toNat)
        case atStart => exact ⟨0, rfl, rfl, by omega, hnw⟩
        case round =>
          obtain ⟨j, rfl, rfl, hj, hnw⟩ := hrel
          by_cases hjlt : (j : Int) < (m : Int)
          · obtain ⟨b, off, rfl, hb, hcs⟩ := hZ1.out.2 (by omega)
            obtain ⟨z, hz⟩ : ∃ z, Hid (z = Z j) := ⟨_, (rfl : _ = _)⟩
            obtain ⟨y, hy⟩ : ∃ y : Nat, Hid (y = l.getD j 0) := ⟨_, (rfl : _ = _)⟩
            have d0 : wr.cell? ⟨b, off + j, none⟩ = some (.int .i64 z) := by
              rw [hz.out]; exact ((hn1.next hnw).cell (p := ⟨b, off + j, none⟩) hb).trans (hcs j (by omega))
            have d1 : wr.cell? ⟨gp, j, none⟩ = some (.int .i64 y) := by
              rw [(own_new hpo1.out hnw).cellAt j (by omega), hy.out]
              have := hlk1.out
              have hjl : j < l.length := by omega
              simp [hjl, encN]
            obtain ⟨s, hs⟩ : ∃ s, Hid (s = eqU l Z j) := ⟨_, (rfl : _ = _)⟩
            have hnx : Hid (eqU l Z (j + 1) = (s && ((y : Int) == z))) := by rw [hs.out, hy.out, hz.out]; exact (rfl : _ = _)
            rw [← hs.out]
            clear hcs
            have i0 : (0 : Int) ≤ (j : Int) := by omega
            cases s with
            | true =>
              go_wp2
              go_quiet (fail)
              go_wp2
              go_roundw
              case rel => exact ⟨j + 1, by go_num, by rw [hnx.out]; simp, by omega, hnw.drewN _⟩
              case measure => simp [intOf]; omega
            | false =>
              go_wp2
              go_quiet (fail)
              go_wp2
              go_roundw
              case rel => exact ⟨j + 1, by go_num, by rw [hnx.out]; simp, by omega, hnw.drewN _⟩
              case measure => simp [intOf]; omega
          · have hjm : j = m := by omega
            subst hjm
            have hiff := eqU_all l Z j hlk1.out
            obtain ⟨s, hs⟩ : ∃ s, Hid (s = eqU l Z j) := ⟨_, (rfl : _ = _)⟩
            rw [← hs.out] at hiff ⊢
            clear hs
            cases s with
            | true =>
              have hsome : T = some i := by
                rw [hin.out, hdr.out, findI_hd, if_pos (hiff.1 rfl)]; rfl
              have h1 : rv = i := by rw [hrv.out, hsome]; rfl
              have h2 : re = 0 := by rw [hre.out, hsome]; rfl
              subst h1 h2
              clear hsome hiff
              go_wp2
              go_ret2
              exact ⟨rfl, hn1.next hnw⟩
            | false =>
              have hin2 : Hid (T = (findI (lst Z j 0) (L.drop (i + 1))).map (fun r => i + 1 + r)) := by
                rw [hin.out, hdr.out, findI_hd, if_neg (fun h => by have := hiff.2 h; cases this)]
                cases findI (lst Z j 0) (L.drop (i + 1)) with
                | none => exact (rfl : _ = _)
                | some r => exact congrArg some (by show i + (r + 1) = i + 1 + r; omega)
              clear hiff
              go_wp2
              go_roundw
              case rel => exact ⟨i + 1, by go_num, by omega, hin2, hnw⟩
              case measure => simp [intOf]; omega
      · have hie : i = L.length := by omega
        subst hie
        have hnone : T = none := by rw [hin.out, List.drop_length]; rfl
        have h1 : rv = 0 := by rw [hrv.out, hnone]; rfl
        have h2 : re = 4 := by rw [hre.out, hnone]; rfl
        subst h1 h2
        clear hnone
        go_wp2
        go_ret2
        exact ⟨by first | rfl | simp, hn1.next hnw⟩
  · have hnone : T = none := by rw [hT.out]; exact numF_long n 0 _ (by rw [lst_len]; omega)
    have h1 : rv = 0 := by rw [hrv.out, hnone]; rfl
    have h2 : re = 4 := by rw [hre.out, hnone]; rfl
    subst h1 h2
    clear hnone
    go_enter Try.func33, Try.ntmps33
    go_wp2
    go_ret2
    exact ⟨by first | rfl | simp, New.refl _⟩
end Go.Proofs.Ytpknpmmcploacaa.comb
