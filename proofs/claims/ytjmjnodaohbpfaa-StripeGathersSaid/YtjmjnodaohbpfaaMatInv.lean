/-
  Contract of the program: the inverse of a matrix.
-/
import Derived.Test.YtjmjnodaohbpfaaMatInvRef
namespace Go.Proofs.Ytjmjnodaohbpfaa.mat
open Go.ChangeShapes Go.WideShapes Go.ChangeAt Go.RowKit Go.Proofs.Ytjmjnodaohbpfaa.kit Go.Proofs.Ytjmjnodaohbpfaa.gf Go.Proofs.Ytjmjnodaohbpfaa.fld Go.Deep
set_option linter.unusedVariables false

theorem Clone_any (b off n c : Nat) (f : Nat → Nat) (w : World) (h : ∀ j, j < n → w.cell? ⟨b, off + j, none⟩ = some (.int .i64 (f j : Nat))) (hn : 0 < n) (hn2 : n ≤ 8192) (hb : b < w.heap.size) :
    Calls Try.prog 40 #[.slice (some ⟨b, off, none⟩) n c] w fun e w' => (∃ g cap, e = .returned (.slice (some ⟨g, 0, none⟩) n cap) ∧ (n ≤ cap ∧ cap ≤ maxLen) ∧ RowV w' g n f ∧ w.heap.size ≤ g) ∧ New w w' := by
  obtain ⟨i0, hi0, hz0, hz1, hz2⟩ := info_parts infoInt
  have hsrc : Hid (∀ j u, (rowL f n)[j]? = some u → (w.alloc (.cells #[] 3)).cell? ((⟨b, off, none⟩ : Addr).add j) = some u) := fun j u hu => by
    have := rd_cells (A := none) h j u hu
    rw [add_cell] at this ⊢
    exact (((New.refl w).alloc _).cell (p := ⟨b, off + j, none⟩) hb).trans this
  have hone := Lib.hid (rowL_one f n)
  have hlen : Hid ((rowL f n).length = n) := rowL_len f n
  have hlit := World.ownsRow_lit (e := 3) (size := 1) w #[] 0 (Nat.le_refl _) (by unfold maxLen; omega) rfl
  have hnb := fun w => Lib.run_eql_slice_nil (P := Try.prog) w 29 3 (some ⟨b, off, none⟩) n c 0 0 Try.underlying29
  clear h
  go_enter Try.func40, Try.ntmps40
  go_wp2_with (at_builtin; refine wpList_append_own _ rfl _ _ 29 rfl w.heap.size 3 i0 _ 1 8 Try.underlying29 hi0 hz0 hz1 hz2 rfl (by decide) (Value.slice (some ⟨w.heap.size, 0, none⟩) 0 0) 0 [] rfl hlit ⟨b, off, none⟩ n c (rowL f n) rfl (by rw [hlen.out]; omega) hsrc.out hone.out (by unfold maxLen; omega) (by omega) (by simp) ?_; intro v3 w3 hown3 hgrow hnil; obtain ⟨g3, c3, rfl, hg3a, hg3b⟩ := hown3.form (by omega))
  have hgA : (w.alloc (.cells #[] 3)).grownBy w3 (some w.heap.size) := hgrow
  have hN : New w w3 := (New.refl w).append' hgA (fun g hg => by cases hg; exact Nat.le_refl _)
  rw [List.nil_append, Nat.zero_add] at hown3
  have hr := RowV.of_own hown3
  have hcap := (own_open hown3)
  obtain ⟨_, _, he, hle, hlm, _⟩ := hcap
  cases he
  have hfin : Hid (RowV w3 g3 n f ∧ w.heap.size ≤ g3 ∧ (n ≤ c3 ∧ c3 ≤ maxLen) ∧ New w w3) := ⟨hr, hg3a, ⟨hle, hlm⟩, hN⟩
  clear hgrow hnil hown3 hr
  go_ret
  exact ⟨⟨g3, c3, rfl, hfin.out.2.2.1, hfin.out.1, hfin.out.2.1⟩, hfin.out.2.2.2⟩
theorem besZ_aug {M : Nat → Nat → Int} {n : Nat} (hn : 0 < n) : besZ M n n = augN (fun i k => elN M i k) n := by
  funext i k
  unfold besZ augN
  by_cases h : k < n
  · rw [if_pos h, if_pos h]
  · rw [if_neg h, if_neg h]
    by_cases h2 : k = n + i
    · rw [if_pos ⟨hn, h2⟩, if_pos h2]
    · rw [if_neg (fun e => h2 e.2), if_neg h2]
set_option maxRecDepth 100000 in
set_option maxHeartbeats 4000000 in
theorem Invert_any (A : Option Addr) (n c : Nat) (R : Nat → Option Addr) (L C : Nat → Nat) (M : Nat → Nat → Int) (w : World) (h : RdM .i64 w A n R L C M) :
    Calls Try.prog 63 #[.slice A n c] w (InvP n (invN (fun i k => elN M i k) n) (ivLen n L M) (ivCode n L M) w) := by
  obtain ⟨cd, hcd⟩ : ∃ cd, Hid (cd = ivCode n L M) := ⟨_, rfl⟩
  obtain ⟨ln, hln⟩ : ∃ ln, Hid (ln = ivLen n L M) := ⟨_, rfl⟩
  rw [← hcd.out, ← hln.out]
  have h0 := Lib.hid h
  have hnm := h.1
  unfold maxLen at hnm
  clear h
  cases hm : mayM n L M with
  | false =>
    have hc : cd = 4 := by rw [hcd.out]; unfold ivCode; simp [hm]
    have hl : ln = 0 := by rw [hln.out]; unfold ivLen; rw [← hcd.out]; simp [hc]
    subst hc hl
    go_enter Try.func63, Try.ntmps63
    go_wp2_with fail
    refine (May_any _ _ _ _ _ _ _ _ h0.out).mono ?_
    rw [hm]
    rintro e w1 ⟨rfl, rfl⟩
    go_wp2
    go_ret2
    exact ⟨_, rfl, ⟨none, 0, fun _ => none, fun _ => 0, rfl, nil_rdM _ _ _ _ _⟩, New.refl _⟩
  | true =>
    obtain ⟨hn1, hn8, hrow⟩ := mayM_out hm
    obtain ⟨b, off, rfl, hb, hcs⟩ := h0.out.2.1 (by omega)
    have z0 := hcs 0 (by omega)
    simp at z0
    have hm0 := Lib.hid hm
    clear hcs hrow hm
    by_cases hsz : L 0 = n
    · have hsz0 := Lib.hid hsz
      rw [hsz] at z0
      have hbes := Lib.hid (fun w1 (hn : New w w1) => beside_any (some ⟨b, off, none⟩) n c n n R L C M w1 (h0.out.new hn) hm0.out hsz (.inr ⟨rfl, hn8⟩))
      obtain ⟨Z, hZ⟩ : ∃ Z : Nat → Nat → Nat, Z = fun i k => elN M i k := ⟨_, rfl⟩
      have hb0 : Hid (bytesP Z n n) := by rw [hZ]; exact elN_bytes hm0.out hsz
      rw [besZ_aug (by omega), ← hZ] at hbes
      rw [← hZ]
      obtain ⟨N2, hN2⟩ : ∃ N2, Hid (N2 = n + n) := ⟨_, rfl⟩
      rw [← hN2.out] at hbes
      have hN16 : N2 ≤ 16 := by have := hN2.out; omega
      have hnN : n ≤ N2 := by have := hN2.out; omega
      have hNn : N2 - n = n := by have := hN2.out; omega
      have hby : Hid (bytesP (augN Z n) n N2) := by rw [hN2.out]; exact augN_bytes hb0.out
      have hrk : Hid ((stP (augN Z n) n n).2 = (stR Z n n).2) := stP_aug hb0.out
      clear hsz
      by_cases hr : (stR Z n n).2 = n
      · have hc : cd = 0 := by rw [hcd.out]; unfold ivCode; rw [if_pos hm0.out, if_pos hsz0.out, ← hZ, if_pos hr]
        have hl : ln = n := by rw [hln.out]; unfold ivLen; rw [← hcd.out, hc]; rfl
        subst hc
        rw [hl]
        rw [hr] at hrk
        obtain ⟨X, hX⟩ : ∃ X : Nat → Nat → Nat, Hid (X = invN Z n) := ⟨_, rfl⟩
        rw [← hX.out]
        have hXv : Hid (∀ i k, X i k = (stP (augN Z n) n n).1 i (n + k)) := fun i k => by rw [hX.out]; rfl
        obtain ⟨i1, hj0, hy0, hy1, hy2⟩ := info_parts info30
        have hnn : ¬ (n : Int) < (n : Int) := by omega
        clear hl hr hZ hcd hln
        go_enter Try.func63, Try.ntmps63
        go_wp2_with fail
        refine (May_any _ _ _ _ _ _ _ _ h0.out).mono ?_
        rw [hm0.out]
        rintro e w1 ⟨rfl, rfl⟩
        go_wp2_with fail
        refine (hbes.out _ (New.refl _)).mono ?_
        rintro e w2 ⟨o, cap, G0, C0, rfl, hcap, hmx, hn2⟩
        go_wp2_with fail
        refine (reduce_any _ _ o n N2 cap n G0 C0 (augN Z n) _ hmx (Nat.le_refl _) hn8 hN16 hnN hcap hby.out).mono ?_
        rw [hrk.out]
        rintro e w3 ⟨⟨G, C1, hmx3⟩, rfl, hbl3, hH3⟩
        have hn3 : Hid (New w w3) := Below.trans (b := w2) hn2 hbl3
        have hmx0 := Lib.hid hmx3
        obtain ⟨H, hH⟩ : ∃ H, Hid (H = w2.heap.size) := ⟨_, rfl⟩
        rw [← hH.out] at hmx0 hH3
        clear hmx hn2 hbl3 hmx3 hbes h0
        go_wp2_with fail
        go_loopw [30, 6] (fun x s wr => ∃ (i : Nat) (sv : Value) (G' C' : Nat → Nat), sv = s ∧ x = .int .i64 i ∧ i ≤ n ∧ Hid (RowsAt w3 i n G' C' X wr sv)) (fun x _ _ => n - (intOf x).toNat)
        case atStart => exact ⟨0, _, fun _ => 0, fun _ => 0, rfl, rfl, by omega, RowsAt.start w3⟩
        case round =>
          obtain ⟨i, sv, G', C', rfl, rfl, hi, hrs⟩ := hrel
          by_cases hlt : i < n
          · have hii : (i : Int) < (n : Int) := by omega
            have hnw := hrs.out.nw
            have hmxr := Lib.hid (hmx0.out.new hH3 hnw)
            have ci := hmxr.out.cellO hlt
            have hcp := hmxr.out.cp i hlt
            have hcp1 := hcp.1
            have hcl := Lib.hid (Clone_any (G i) n n (C1 i - n) (X i) wr (fun j hj => by
              have := hmxr.out.cell hlt (show n + j < N2 by have := hN2.out; omega)
              rw [this, hXv.out]) (by omega) (by omega) (by have := (hmxr.out.gb i hlt).2; have := hnw.size; omega))
            have hni : (n : Int) ≤ (N2 : Int) := by omega
            have hn0 : (0 : Int) ≤ (n : Int) := by omega
            clear hcp
            go_wp2_with fail
            refine hcl.out.mono ?_
            rintro e wC ⟨⟨g, cg, rfl, hcg, hrv, hgC⟩, hnC⟩
            have hown := hrs.out.own
            have hsz3 := hnw.size
            have hszC := hnC.size
            go_wp2_with (at_builtin; refine wpList_append_own _ rfl _ _ 53 rfl w3.heap.size 29 i1 _ 1 24 Try.underlying53 hj0 hy0 hy1 hy2 rfl (by decide) _ i (rowsC G' C' n i) rfl ((own_new hown hnC).alloc _) ⟨wC.heap.size, 0, none⟩ 1 1 [.slice (some ⟨g, 0, none⟩) n cg] rfl rfl (World.news_of_block (cs := #[.slice _ _ _]) (t := 29) (fr := (0, 0)) (heap_alloc_new wC _)) (by simp [Value.oneCell']) (by unfold maxLen; omega) (by omega) (by simp; omega) ?_; intro v4 w4 hown4 hgrow4 hnil4)
            have hrs2 := Lib.hid (hrs.out.more hnC hgC hrv hown4 hgrow4 hcg)
            clear hrs hown hown4 hgrow4 hnil4
            go_roundw
            case rel => exact ⟨i + 1, _, _, _, rfl, by go_num, by omega, hrs2.out⟩
            case measure => simp [intOf]; omega
          · have hin : i = n := by omega
            have hrsn : Hid (RowsAt w3 n n G' C' X wr sv) := by rw [hin] at hrs; exact hrs.out
            have hii : ¬ (i : Int) < (n : Int) := by omega
            obtain ⟨o2, cap2, rfl, hcap2, hmx2⟩ := hrsn.out.mx (by omega)
            have hR := Lib.hid (hmx2.rd hmx2.cp hn8 (by omega))
            have hnf : Hid (New w wr) := hn3.out.next hrsn.out.nw
            clear hmx2 hrs hrsn hin hlt
            go_wp2
            go_ret2
            exact ⟨_, rfl, ⟨_, _, _, _, rfl, hR.out⟩, hnf.out⟩
      · have hc : cd = 10 := by rw [hcd.out]; unfold ivCode; rw [if_pos hm0.out, if_pos hsz0.out, ← hZ, if_neg hr]
        have hl : ln = 0 := by rw [hln.out]; unfold ivLen; rw [← hcd.out]; simp [hc]
        subst hc hl
        have hlt : (stR Z n n).2 < n := by have := (stR_bytes hb0.out n).2; omega
        obtain ⟨rk, hrke⟩ : ∃ rk, rk = (stR Z n n).2 := ⟨_, rfl⟩
        rw [← hrke] at hrk hlt
        have hlti : (rk : Int) < (n : Int) := by omega
        clear hr hrke hZ hcd hln
        go_enter Try.func63, Try.ntmps63
        go_wp2_with fail
        refine (May_any _ _ _ _ _ _ _ _ h0.out).mono ?_
        rw [hm0.out]
        rintro e w1 ⟨rfl, rfl⟩
        go_wp2_with fail
        refine (hbes.out _ (New.refl _)).mono ?_
        rintro e w2 ⟨o, cap, G0, C0, rfl, hcap, hmx, hn2⟩
        go_wp2_with fail
        refine (reduce_any _ _ o n N2 cap n G0 C0 (augN Z n) _ hmx (Nat.le_refl _) hn8 hN16 hnN hcap hby.out).mono ?_
        rw [hrk.out]
        rintro e w3 ⟨_, rfl, hbl3, hH3⟩
        have hn3 : New w w3 := Below.trans (b := w2) hn2 hbl3
        clear hmx hn2 hbl3 hbes h0
        go_wp2
        go_ret2
        exact ⟨_, rfl, ⟨none, 0, fun _ => none, fun _ => 0, rfl, nil_rdM _ _ _ _ _⟩, hn3⟩
    · have hc : cd = 1 := by rw [hcd.out]; unfold ivCode; rw [if_pos hm0.out, if_neg hsz]
      have hl : ln = 0 := by rw [hln.out]; unfold ivLen; rw [← hcd.out]; simp [hc]
      subst hc hl
      have hne : ((L 0 : Int) != (n : Int)) = true := by simp; omega
      go_enter Try.func63, Try.ntmps63
      go_wp2_with fail
      refine (May_any _ _ _ _ _ _ _ _ h0.out).mono ?_
      rw [hm0.out]
      rintro e w1 ⟨rfl, rfl⟩
      go_wp2
      go_ret2
      exact ⟨_, rfl, ⟨none, 0, fun _ => none, fun _ => 0, rfl, nil_rdM _ _ _ _ _⟩, New.refl _⟩
end Go.Proofs.Ytjmjnodaohbpfaa.mat
