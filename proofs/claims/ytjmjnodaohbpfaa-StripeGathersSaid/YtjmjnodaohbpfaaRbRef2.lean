/-
  Contract of the reference: columns that are rebuilt.
-/
import Derived.Test.YtjmjnodaohbpfaaRbRef1
namespace Go.Proofs.Ytjmjnodaohbpfaa.par
open Go.ChangeShapes Go.WideShapes Go.ChangeAt Go.RowKit Go.Proofs.Ytjmjnodaohbpfaa.kit Go.Proofs.Ytjmjnodaohbpfaa.gf Go.Proofs.Ytjmjnodaohbpfaa.fld Go.Deep
set_option linter.unusedVariables false
set_option maxRecDepth 100000

set_option maxHeartbeats 8000000 in
theorem ParRebuild_any (N c m d : Nat) (p : Int) (A B : Option Addr) (D : Nat → Int) (R : Nat → Option Addr) (L C : Nat → Nat) (M : Nat → Nat → Int) (w : World) (hM : RdM .u8 w A N R L C M) (hb : ∀ i, i < N → ∀ k, k < L i → 0 ≤ M i k ∧ M i k ≤ 255)
    (hD : RdI .i64 w B m D) (hmd : m ≤ d) (hp1 : -9223372036854775808 ≤ p) (hp2 : p ≤ 9223372036854775807) :
    Calls Try.prog 14 #[.slice A N c, .int .i64 p, .slice B m d] w (RebP N L p D m M w) := by
  by_cases hrg : rgP N p
  · obtain ⟨r1, r2, r3, r4⟩ := id hrg
    obtain ⟨pn, rfl⟩ : ∃ pn : Nat, (pn : Int) = p := ⟨p.toNat, by omega⟩
    obtain ⟨n, hn'⟩ : ∃ n, Hid (N = n + pn) := ⟨N - pn, (by show N = N - pn + pn; omega)⟩
    have n1 : 1 ≤ n := by have := hn'.out; omega
    have n12 : n ≤ 12 := by have := hn'.out; omega
    have p1 : 1 ≤ pn := by omega
    have p3 : pn ≤ 3 := by omega
    have hN15 : N ≤ 15 := by omega
    have hmm := hD.1
    unfold maxLen at hmm
    have hsub : (N : Int) - (pn : Int) = (n : Int) := by have := hn'.out; omega
    have hp1i : ¬ (pn : Int) < 1 := by omega
    have hp3i : ¬ 3 < (pn : Int) := by omega
    have hn12i : ¬ 12 < (n : Int) := by omega
    have hn1i : ¬ (n : Int) < 1 := by omega
    have hM0 := Lib.hid hM
    have hD0 := Lib.hid hD
    have hb0 := Lib.hid hb
    have hrg0 := Lib.hid hrg
    have hhas := Lib.hid (fun (z : Int) (w' : World) (hn : New w w') => hasInt_any B m d D z w' (hD.new hn))
    obtain ⟨G, hG⟩ : ∃ G, Hid (G = gn D m) := ⟨_, rfl⟩
    clear hM hD hb hrg
    go_enter Try.func14, Try.ntmps14
    go_wp2_with fail
    go_loopw [53, 9] (fun x sv wr => ∃ i : Nat, x = .int .i64 i ∧ i ≤ N ∧ sv = .int .i64 (szI G L i) ∧ Hid (∀ k, k < i → G k = false → L k = lSize G L i ∧ L k ≤ 4096) ∧ wr = w) (fun x _ _ => N - (intOf x).toNat)
    case atStart => exact ⟨0, rfl, by omega, rfl, fun k hk => absurd hk (by omega), rfl⟩
    case round =>
      obtain ⟨i, rfl, hi, rfl, hok, rfl⟩ := hrel
      obtain ⟨sv, hsv⟩ : ∃ sv : Int, Hid (sv = szI G L i) := ⟨_, rfl⟩
      rw [← hsv.out]
      by_cases hlt : i < N
      · obtain ⟨bA, oA, rfl, hbA, hcA⟩ := hM0.out.2.1 (by omega)
        have ca := hcA i hlt
        have hLm := (hM0.out.2.2 i hlt).1.1
        unfold maxLen at hLm
        have a0 : (0 : Int) ≤ (i : Int) := by omega
        have a1 : (i : Int) < (N : Int) := by omega
        have hcall := Lib.hid (hhas.out (i : Int) wr (New.refl _))
        clear hcA
        cases hg : G i with
        | true =>
          have hgi : hasD D m (i : Int) = true := by have := congrFun hG.out i; rw [hg] at this; exact this.symm
          rw [hgi] at hcall
          have hs2 : Hid (szI G L (i + 1) = sv) := by
            show _ = _
            rw [hsv.out]
            unfold szI lSize
            rw [lf_drop hg]
          have hok2 : Hid (∀ k, k < i + 1 → G k = false → L k = lSize G L (i + 1) ∧ L k ≤ 4096) := fun k hk hGk => by
            have hki : k ≠ i := fun e => by rw [e, hg] at hGk; cases hGk
            have := hok.out k (by omega) hGk
            unfold lSize at this ⊢
            rw [lf_drop hg]
            exact this
          clear hg hgi hok
          go_wp2_with fail
          refine hcall.out.mono ?_
          rintro e w1 ⟨rfl, rfl⟩
          clear hcall
          go_wp2
          go_roundw
          case rel => exact ⟨i + 1, by go_num, by omega, by rw [hs2.out], hok2.out, trivial⟩
          case measure => simp [intOf]; omega
        | false =>
          have hgi : hasD D m (i : Int) = false := by have := congrFun hG.out i; rw [hg] at this; exact this.symm
          rw [hgi] at hcall
          have hgH := Lib.hid hg
          clear hg hgi
          by_cases hl : lf G i = []
          · have hs1 : sv = -1 := by rw [hsv.out]; unfold szI; rw [if_pos hl]
            subst hs1
            have hsz : Hid (lSize G L N = L i) := lSize_first hlt hl hgH.out
            by_cases hL4 : L i ≤ 4096
            · have hs2 : Hid (szI G L (i + 1) = (L i : Int)) := by
                show _ = _
                unfold szI
                rw [lf_keep hgH.out, if_neg (by simp)]
                have : lSize G L (i + 1) = L i := lSize_first (by omega) hl hgH.out
                rw [this]
              have hok2 : Hid (∀ k, k < i + 1 → G k = false → L k = lSize G L (i + 1) ∧ L k ≤ 4096) := fun k hk hGk => by
                have hki : k = i := by
                  by_cases e : k = i
                  · exact e
                  · exfalso
                    have : k ∈ lf G i := lf_mem.2 ⟨by omega, hGk⟩
                    rw [hl] at this; cases this
                subst hki
                have : lSize G L (k + 1) = L k := lSize_first (by omega) hl hgH.out
                rw [this]
                exact ⟨rfl, hL4⟩
              have hne : ((L i : Int) != (L i : Int)) = false := by simp
              clear hl hok
              go_wp2_with fail
              refine hcall.out.mono ?_
              rintro e w1 ⟨rfl, rfl⟩
              clear hcall
              go_wp2
              go_roundw
              case rel => exact ⟨i + 1, by go_num, by omega, by rw [hs2.out], hok2.out, trivial⟩
              case measure => simp [intOf]; omega
            · have hbad : Hid (rbCode N L pn D m = 4) := rbCode_4 hrg0.out (by rw [← hG.out]; exact lOK_bad hlt hgH.out (.inr (by omega)))
              have hL4i : (4096 : Int) < (L i : Int) := by omega
              clear hl hok
              go_wp2_with fail
              refine hcall.out.mono ?_
              rintro e w1 ⟨rfl, rfl⟩
              have hfin := Lib.hid (RebP_bad (M := M) hbad.out (by decide) rfl (New.refl wr))
              clear hcall
              go_wp2
              go_ret2
              exact hfin.out
          · have hs1 : Hid (sv = (lSize G L i : Nat)) := by show _ = _; rw [hsv.out]; unfold szI; rw [if_neg hl]
            have hlat : Hid (lSize G L N = lSize G L i) := lSize_later (by omega) hl
            obtain ⟨S, hS⟩ : ∃ S, Hid (S = lSize G L i) := ⟨_, rfl⟩
            rw [← hS.out] at hs1 hlat
            have hSs : S ≤ 4096 := by
              obtain ⟨x, l, hxl⟩ := List.exists_cons_of_ne_nil hl
              have hx : x ∈ lf G i := by rw [hxl]; exact List.mem_cons_self
              have := hok.out x (lf_mem.1 hx).1 (lf_mem.1 hx).2
              rw [← hS.out] at this
              omega
            obtain rfl : sv = (S : Int) := hs1.out
            have hlH := Lib.hid hl
            clear hl
            by_cases hLS : L i = S
            · have hs2 : Hid (szI G L (i + 1) = (S : Int)) := by
                show _ = _
                unfold szI
                rw [lf_keep hgH.out, if_neg (by simp)]
                have : lSize G L (i + 1) = lSize G L i := lSize_later (by omega) hlH.out
                rw [this, hS.out]
              have hok2 : Hid (∀ k, k < i + 1 → G k = false → L k = lSize G L (i + 1) ∧ L k ≤ 4096) := fun k hk hGk => by
                have h1 : lSize G L (i + 1) = lSize G L i := lSize_later (by omega) hlH.out
                rw [h1]
                by_cases e : k = i
                · subst e
                  rw [← hS.out]
                  exact ⟨hLS, by omega⟩
                · exact hok.out k (by omega) hGk
              rw [hLS] at ca
              clear hLS hok
              go_wp2_with fail
              refine hcall.out.mono ?_
              rintro e w1 ⟨rfl, rfl⟩
              clear hcall
              go_wp2
              go_roundw
              case rel => exact ⟨i + 1, by go_num, by omega, by rw [hs2.out], hok2.out, trivial⟩
              case measure => simp [intOf]; omega
            · have hbad : Hid (rbCode N L pn D m = 4) := rbCode_4 hrg0.out (by rw [← hG.out]; exact lOK_bad hlt hgH.out (.inl (by rw [hlat.out]; exact hLS)))
              have hne : ((L i : Int) != (S : Int)) = true := by simp; omega
              have hne2 : ((L i : Int) == (S : Int)) = false := by simp; omega
              clear hLS hok
              go_wp2_with fail
              refine hcall.out.mono ?_
              rintro e w1 ⟨rfl, rfl⟩
              have hfin := Lib.hid (RebP_bad (M := M) hbad.out (by decide) rfl (New.refl wr))
              clear hcall
              go_wp2
              go_ret2
              exact hfin.out
      · have hiN : i = N := by omega
        subst hiN
        have hgood : Hid (lOK (gn D m) L i = true) := by rw [← hG.out]; exact lOK_in hok.out
        have hsvN : Hid (sv = szI G L i) := hsv.out
        clear hok hsv
        have hlN : ¬ (i : Int) < (i : Int) := by omega
        go_wp2_with fail
        go_loopw [76] (fun x wr1 => ∃ t : Nat, x = .int .i64 t ∧ t ≤ m ∧ Hid (∀ t', t' < t → ¬ outP i D t') ∧ wr1 = wr) (fun x _ => m - (intOf x).toNat)
        case atStart => exact ⟨0, rfl, by omega, fun t ht => absurd ht (by omega), rfl⟩
        case round =>
          obtain ⟨t, rfl, ht, hno, rfl⟩ := hrel
          by_cases htl : t < m
          · obtain ⟨b, off, rfl, hb, hcs⟩ := hD0.out.2 (by omega)
            have c0 := hcs t htl
            have a0 : (0 : Int) ≤ (t : Int) := by omega
            have a1 : (t : Int) < (m : Int) := by omega
            clear hcs
            by_cases hin : outP i D t
            · have hbad : Hid (rbCode i L pn D m = 2) := rbCode_2 hrg0.out hgood.out (outD_true.2 ⟨t, htl, hin⟩)
              have hfin := Lib.hid (RebP_bad (M := M) hbad.out (by decide) rfl (New.refl wr))
              unfold outP at hin
              have hins : D t < 0 ∨ ¬ D t < 0 ∧ (i : Int) ≤ D t := by omega
              generalize D t = di at c0 hin hins
              clear hin
              rcases hins with hin | ⟨hin0, hin⟩
              all_goals
                go_wp2
                go_ret2
                exact hfin.out
            · have hno2 : Hid (∀ t', t' < t + 1 → ¬ outP i D t') := fun t' ht' => by
                by_cases e : t' = t
                · subst e; exact hin
                · exact hno.out t' (by omega)
              have hi0 : ¬ D t < 0 := by unfold outP at hin; omega
              have hi1 : ¬ (i : Int) ≤ D t := by unfold outP at hin; omega
              generalize D t = di at c0 hin hi0 hi1
              clear hin hno
              go_wp2
              go_roundw
              case rel => exact ⟨t + 1, by go_num, by omega, hno2.out, trivial⟩
              case measure => simp [intOf]; omega
          · have htm : t = m := by omega
            subst htm
            have hout : Hid (outD i D t = false) := outD_false.2 hno.out
            have hltt : ¬ (t : Int) < (t : Int) := by omega
            clear hno
            go_wp2_with fail
            go_loopw [91] (fun x wr1 => ∃ s : Nat, x = .int .i64 s ∧ s ≤ t ∧ Hid (∀ s', s' < s → hasD D s' (D s') = false) ∧ Hid (New wr wr1)) (fun x _ => t - (intOf x).toNat)
            case atStart => exact ⟨0, rfl, by omega, fun s hs => absurd hs (by omega), New.refl _⟩
            case round =>
              obtain ⟨s, rfl, hs, hnd, hnw⟩ := hrel
              rename_i wr0 _ _ _ _
              obtain ⟨w1, rfl⟩ : ∃ w1, w1 = wr := ⟨wr, rfl⟩
              by_cases hsl : s < t
              · obtain ⟨b, off, rfl, hb, hcs⟩ := hD0.out.2 (by omega)
                have c0 := (hnw.out.cell hb).trans (hcs s hsl)
                have a0 : (0 : Int) ≤ (s : Int) := by omega
                have a1 : (s : Int) < (t : Int) := by omega
                have hcap : (s : Int) ≤ (d : Int) := by omega
                have hcap2 : s ≤ d := by omega
                have hcall := Lib.hid (fun w' (hn : New w1 w') => (hasInt_any (some ⟨b, off, none⟩) s d D (D s) w' (RdI.pre (hD0.out.new (hnw.out.next hn)) (by omega))).mono fun e w'' ⟨h1, h2⟩ => (⟨h1, New.of_same h2⟩ : e = _ ∧ New w' w''))
                have k0 := NewW.keep c0
                clear hcs c0
                cases hdu : hasD D s (D s) with
                | true =>
                  rw [hdu] at hcall
                  have hbad : Hid (rbCode i L pn D t = 7) := rbCode_7 hrg0.out hgood.out hout.out (dupD_true.2 ⟨s, hsl, hdu⟩)
                  generalize D s = ds at *
                  clear hdu
                  go_wp2_with fail
                  (refine wp_region_quiet_new (by kernel_rfl) (by kernel_rfl) ?_; (repeat (first | go_big_quiet_step (first | (go_at_call 30; exact NewW.call _ (hcall.out _ (NewW.is _)))) | quiet_step (first | (go_at_call 30; exact NewW.call _ (hcall.out _ (NewW.is _)))))); refine wpQuiet_nil ?_; rintro W5 ⟨⟨_, hn_W5⟩, rfl⟩)
                  have hfin := Lib.hid (RebP_bad (M := M) hbad.out (by decide) rfl (hnw.out.next hn_W5))
                  go_wp2
                  go_ret2
                  exact hfin.out
                | false =>
                  rw [hdu] at hcall
                  have hnd2 : Hid (∀ s', s' < s + 1 → hasD D s' (D s') = false) := fun s' hs' => by
                    by_cases e : s' = s
                    · subst e; exact hdu
                    · exact hnd.out s' (by omega)
                  generalize D s = ds at *
                  clear hdu hnd
                  go_wp2_with fail
                  (refine wp_region_quiet_new (by kernel_rfl) (by kernel_rfl) ?_; (repeat (first | go_big_quiet_step (first | (go_at_call 30; exact NewW.call _ (hcall.out _ (NewW.is _)))) | quiet_step (first | (go_at_call 30; exact NewW.call _ (hcall.out _ (NewW.is _)))))); refine wpQuiet_nil ?_; rintro W5 ⟨⟨_, hn_W5⟩, rfl⟩)
                  have hnw2 := Lib.hid (hnw.out.next hn_W5)
                  clear k0
                  go_wp2
                  go_roundw
                  case rel => exact ⟨s + 1, by go_num, by omega, hnd2.out, hnw2.out⟩
                  case measure => simp [intOf]; omega
              · have hst : s = t := by omega
                subst hst
                have hdup : Hid (dupD D s = false) := dupD_false.2 hnd.out
                clear hnd hs
                by_cases hmp : (pn : Int) < (s : Int)
                · have hbad : Hid (rbCode i L pn D s = 12) := rbCode_12 hrg0.out hgood.out hout.out hdup.out hmp
                  have hfin := Lib.hid (RebP_bad (M := M) hbad.out (by decide) rfl hnw.out)
                  clear hdup
                  go_wp2
                  go_ret2
                  exact hfin.out
                · have hcode : Hid (rbCode i L pn D s = 0) := rbCode_0 hrg0.out hgood.out hout.out hdup.out hmp
                  have hmp2 : s ≤ pn := by omega
                  have hne : Hid (lf G i ≠ []) := by rw [hG.out]; exact lf_some (p := pn) (by omega) hmp2
                  obtain ⟨sz, hsz⟩ : ∃ sz, Hid (sz = lSize G L i) := ⟨_, rfl⟩
                  have hsvz : sv = (sz : Int) := by rw [hsvN.out, hsz.out]; unfold szI; rw [if_neg hne.out]
                  subst hsvz
                  have hokL : Hid (∀ k, k < i → G k = false → L k = sz ∧ L k ≤ 4096) := by
                    rw [hsz.out]
                    have := hgood.out
                    rw [← hG.out] at this
                    exact lOK_out this
                  have hsl : sz ≤ 4096 := by
                    obtain ⟨x, l, hl⟩ := List.exists_cons_of_ne_nil hne.out
                    have hx : x ∈ lf G i := by rw [hl]; exact List.mem_cons_self
                    have := hokL.out x (lf_mem.1 hx).1 (lf_mem.1 hx).2
                    omega
                  have hpf : Hid ((hfL G n).length ≤ (pfL G n pn).length) := by rw [hG.out]; exact gn_few hn'.out hmp2
                  obtain ⟨i0, hi0, hz0, hz1, hz2⟩ := info_parts infoI3
                  obtain ⟨i8, hi8, hw0, hw1, hw2⟩ := info_parts infoU8
                  have hmk := run_make_row' (P := Try.prog) 22 32 (.slice none 0 0) 24 Try.underlying22 info32 rfl .i64 .i64 i (by omega) (by omega)
                  have hmk2 := run_make_row' (P := Try.prog) 32 5 (.int .u8 0) 1 Try.underlying32 infoU8 rfl .i64 .i64 sz (by omega) (by omega)
                  have hnwH := Lib.hid hnw.out
                  clear hdup hnw hsvN hgood hout hne
                  go_wp2_with fail
                  obtain ⟨w2, hw2'⟩ : ∃ w2, w2 = w1.alloc (.cells (madeCells #[.slice none 0 0] i) 32) := ⟨_, rfl⟩
                  have ho2 : Hid (w2.rowIs w1.heap.size 32 i (fun _ => .slice none 0 0)) := by rw [hw2']; exact World.rowIs_made w1 (.slice none 0 0) i 32
                  have hn2 : Hid (New wr w2) := by rw [hw2']; exact hnwH.out.alloc _
                  have hs2 : w2.heap.size = w1.heap.size + 1 := by rw [hw2']; simp
                  rw [← hw2']
                  obtain ⟨o, ho⟩ : ∃ o, o = w1.heap.size := ⟨_, rfl⟩
                  rw [← ho] at ho2 hs2 ⊢
                  have hoo : wr.heap.size ≤ o := by rw [ho]; exact hnwH.out.size
                  have hs2H := Lib.hid hs2
                  clear hw2' hs2 ho
                  have hro0 : Hid (RO wr o i 0 0 sz w2.heap.size G (fun _ => .slice none 0 0) (fun _ => none) (fun _ => 0) (fun _ => 0) (rb0 G M) w2) :=
                    ⟨hn2.out, ho2.out, ⟨hoo, by have := hs2H.out; omega⟩, fun k a => absurd a (by omega), fun k a => absurd a (by omega), fun k a => absurd a (by omega), fun k l a => absurd a (by omega), fun k a => absurd a (by omega), rb0_lt G M⟩
                  obtain ⟨wa, rfl⟩ : ∃ wa, wa = wr := ⟨wr, rfl⟩
                  go_loopw [112, 15] (fun x hv wr => ∃ (k : Nat) (V : Nat → Value) (Ad : Nat → Option Addr) (Gr Cp : Nat → Nat), x = .int .i64 k ∧ k ≤ i ∧ Hid (RO wa o i k 0 sz wr.heap.size G V Ad Gr Cp (rb0 G M) wr) ∧
                    wr.ownsRow wa.heap.size 3 1 hv (hfL G (min k n)).length ((hfL G (min k n)).map encI)) (fun x _ _ => i - (intOf x).toNat)
                  case atStart => exact ⟨0, _, _, _, _, rfl, by omega, hro0.out, by rw [Nat.zero_min]; exact World.ownsRow_nil _ _ _ _⟩
                  case round =>
                    clear hro0 ho2 hn2
                    obtain ⟨k, V, Ad, Gr, Cp, rfl, hk, hro, hown⟩ := hrel
                    obtain ⟨w3, rfl⟩ : ∃ w3, w3 = wr := ⟨wr, rfl⟩
                    by_cases hkl : k < i
                    · obtain ⟨bA, oA, rfl, hbA, hcA⟩ := hM0.out.2.1 (by omega)
                      have ca := (hro.out.nw.cell hbA).trans (hcA k hkl)
                      have a0 : (0 : Int) ≤ (k : Int) := by omega
                      have a1 : (k : Int) < (i : Int) := by omega
                      have hcall := Lib.hid (hhas.out (k : Int) w3 hro.out.nw)
                      have hwsz := hro.out.nw.size
                      clear hcA
                      cases hg : G k with
                      | true =>
                        have hgi : hasD D s (k : Int) = true := by have := congrFun hG.out k; rw [hg] at this; exact this.symm
                        rw [hgi] at hcall
                        have hro2 : Hid (RO wa o i (k + 1) 0 sz w3.heap.size G V Ad Gr Cp (rb0 G M) w3) := hro.out.skip (by
                          rintro (h | h)
                          · omega
                          · rw [hg] at h; cases h)
                        by_cases hkn : k < n
                        · have hkni : (k : Int) < (n : Int) := by omega
                          rw [show min k n = k by omega] at hown
                          have hl15 : (hfL G k).length ≤ 15 := by have := hfL_len G k; omega
                          have hlist : Hid (hfL G (min (k + 1) n) = hfL G k ++ [k]) := by rw [show min (k + 1) n = k + 1 by omega]; exact hfL_yes hg
                          obtain ⟨l, hl⟩ : ∃ l, Hid (l = hfL G k) := ⟨_, rfl⟩
                          rw [← hl.out] at hown hl15 hlist
                          clear hg hgi
                          go_wp2_with fail
                          refine hcall.out.mono ?_
                          rintro e w4 ⟨rfl, rfl⟩
                          clear hcall
                          go_wp2_with (at_builtin; refine wpList_append_own _ rfl _ _ 29 rfl wa.heap.size 3 i0 _ 1 8 Try.underlying29 hi0 hz0 hz1 hz2 rfl (by decide) _ l.length (l.map encI) rfl (hown.alloc _) ⟨w3.heap.size, 0, none⟩ 1 1 [.int .i64 k] rfl rfl (World.news_of_block (cs := #[.int .i64 _]) (t := 3) (fr := (0, 0)) (heap_alloc_new w3 _)) (by simp [Value.oneCell']) (by unfold maxLen; omega) (by omega) (by simp; omega) ?_; intro v4 w4 hown4 hgrow hnil)
                          have hro4 := Lib.hid (RO.apart (hro2.out.new ((New.refl w3).alloc _)) (hown.alloc _) hgrow (Nat.le_refl _)).alive
                          have hown5 : Hid (w4.ownsRow wa.heap.size 3 1 v4 (hfL G (min (k + 1) n)).length ((hfL G (min (k + 1) n)).map encI)) := by
                            rw [hlist.out, List.length_append, List.map_append]
                            exact hown4
                          clear hown hown4 hgrow hnil hro hro2
                          go_wp2
                          go_roundw
                          case rel => exact ⟨k + 1, _, _, _, _, by go_num, by omega, hro4.out, hown5.out⟩
                          case measure => simp [intOf]; omega
                        · have hkni : ¬ (k : Int) < (n : Int) := by omega
                          have hown2 : Hid (w3.ownsRow wa.heap.size 3 1 u15 (hfL G (min (k + 1) n)).length ((hfL G (min (k + 1) n)).map encI)) := by
                            rw [show min (k + 1) n = min k n by omega]; exact hown
                          clear hown hro hg hgi
                          go_wp2_with fail
                          refine hcall.out.mono ?_
                          rintro e w4 ⟨rfl, rfl⟩
                          clear hcall
                          go_wp2
                          go_roundw
                          case rel => exact ⟨k + 1, _, _, _, _, by go_num, by omega, hro2.out, hown2.out⟩
                          case measure => simp [intOf]; omega
                      | false =>
                        have hgi : hasD D s (k : Int) = false := by have := congrFun hG.out k; rw [hg] at this; exact this.symm
                        rw [hgi] at hcall
                        have hLk : L k = sz := (hokL.out k hkl hg).1
                        have hRk := (hM0.out.2.2 k hkl).1.new hro.out.nw
                        rw [hLk] at ca hRk
                        have hbk : Hid (∀ t, t < sz → 0 ≤ M k t ∧ M k t ≤ 255) := fun t ht => hb0.out k hkl t (by rw [hLk]; exact ht)
                        have hgH := Lib.hid hg
                        have hownH := Lib.hid hown
                        have hlst : Hid (hfL G (min (k + 1) n) = hfL G (min k n)) := by
                          by_cases hin : k < n
                          · rw [show min (k + 1) n = k + 1 by omega, show min k n = k by omega]; exact hfL_no hg
                          · rw [show min (k + 1) n = min k n by omega]; exact rfl
                        have hF : Hid (∀ t, t < sz → rb0 G M k t = (M k t).toNat) := fun t ht => by
                          have := hbk.out t ht
                          unfold rb0
                          rw [if_neg (by rw [hgH.out]; simp)]
                          omega
                        have hlit := World.ownsRow_lit (e := 5) (size := 1) w3 #[] 0 (Nat.le_refl _) (by unfold maxLen; omega) rfl
                        have hend : Hid (∀ (A3 : Option Addr) (c3 : Nat) (w4 : World), New w3 w4 → CopyP sz (fun t => (M k t).toNat) w3.heap.size A3 c3 w4 →
                            ∃ g, RO wa o i (k + 1) 0 sz (w4.setCell ⟨o, k, none⟩ (.slice A3 sz c3)).heap.size G (up V k (.slice A3 sz c3)) (up Ad k A3) (up Gr k g) (up Cp k c3) (rb0 G M) (w4.setCell ⟨o, k, none⟩ (.slice A3 sz c3)) ∧
                            (w4.setCell ⟨o, k, none⟩ (.slice A3 sz c3)).ownsRow wa.heap.size 3 1 u15 (hfL G (min (k + 1) n)).length ((hfL G (min (k + 1) n)).map encI)) := fun A3 c3 w4 hn4 hcp => by
                          obtain ⟨g, hgg⟩ : ∃ g, 0 < sz → A3 = some ⟨g, 0, none⟩ ∧ RowK 5 .u8 w4 g sz (fun t => (M k t).toNat) ∧ w3.heap.size ≤ g := by
                            by_cases h0 : 0 < sz
                            · obtain ⟨g, h1⟩ := hcp.2 h0
                              exact ⟨g, fun _ => h1⟩
                            · exact ⟨0, fun h => absurd h h0⟩
                          have hro4 := hro.out.new hn4
                          refine ⟨g, ?_, ?_⟩
                          · rw [set_size]
                            exact hro4.lay (A := A3) (c := c3) (g := g) (.inr hgH.out) hcp.1 (fun h0 => ⟨(hgg h0).1, (hgg h0).2.1.congr fun t ht => (hF.out t ht).symm⟩) (fun h _ => absurd h (Nat.not_lt_zero _)) (fun hB => by
                              have h0 : 0 < sz := by
                                rcases hB.2 with h | h
                                · exact h
                                · exact absurd h.1 (Nat.not_lt_zero _)
                              exact ⟨(hgg h0).2.2, (hgg h0).2.1.lt⟩) hwsz hn4.size
                          · rw [hlst.out]
                            have h2 := own_new hownH.out hn4
                            exact h2.kept (grown_set _ _ _ _) (.inr (row_ne_own h2 hro4.out (by decide)))
                        have hcell : Hid (∀ w4, New w3 w4 → w4.cell? ⟨o, k, none⟩ = some (V k) ∧ w4.frozen? ⟨o, k, none⟩ = false) := fun w4 hn4 => ⟨(hro.out.new hn4).out.cell hkl, (hro.out.new hn4).out.frozen k⟩
                        have hRkH := Lib.hid hRk
                        generalize V k = vk at hcell
                        clear hg hgi hown hRk hLk
                        cases hRA : R k with
                        | none =>
                          rw [hRA] at ca hRkH
                          have hs0 : Hid (sz = 0) := by
                            by_cases h0 : 0 < sz
                            · obtain ⟨b', off', he, _⟩ := hRkH.out.2 h0
                              cases he
                            · show sz = 0; omega
                          clear hRA
                          go_wp2_with fail
                          refine hcall.out.mono ?_
                          rintro e w4 ⟨rfl, rfl⟩
                          have hsl0 := hs0.out
                          have ca0 := ca
                          rw [hsl0] at ca0
                          have hlitH := Lib.hid hlit
                          obtain ⟨co4, cf4⟩ := hcell.out _ ((New.refl w3).alloc (.cells #[] 5))
                          have hca := (((New.refl w3).alloc (.cells #[] 5)).cell (lt_of_cell ca0)).trans ca0
                          clear ca hcall hlit hsl0
                          go_wp2_with (first | (at_builtin; refine wpList_append_none0 rfl _ _ 32 rfl w3.heap.size 5 i8 1 Try.underlying32 hi8 _ 0 (C k) [] rfl hlitH.out rfl ?_))
                          obtain ⟨g, h1, h2⟩ := hend.out (some ⟨w3.heap.size, 0, none⟩) 0 (w3.alloc (.cells #[] 5)) ((New.refl w3).alloc _) ⟨⟨by have := hs0.out; omega, Nat.zero_le _⟩, fun h => by have := hs0.out; omega⟩
                          have e1 : Value.slice (some ⟨w3.heap.size, 0, none⟩) sz 0 = .slice (some ⟨w3.heap.size, 0, none⟩) 0 0 := by rw [hs0.out]
                          rw [e1] at h1 h2
                          have h1H := Lib.hid h1
                          have h2H := Lib.hid h2
                          clear h1 h2 e1 hend hcell hro hRkH hlitH co4 cf4 hca ca0
                          go_wp2
                          go_roundw
                          case rel => exact ⟨k + 1, _, _, _, _, by go_num, by omega, h1H.out, h2H.out⟩
                          case measure => simp [intOf]; omega
                        | some a =>
                          rw [hRA] at ca hRkH
                          have hsrc : Hid (∀ j u, (numL .u8 (fun t => (M k t).toNat) sz)[j]? = some u → (w3.alloc (.cells #[] 5)).cell? (a.add j) = some u) := fun j u hu => by
                            have hj : j < sz := by
                              have := (List.getElem?_eq_some_iff.1 hu).1
                              simpa [numL] using this
                            obtain ⟨b', off', he, hb', hc'⟩ := hRkH.out.2 (by omega)
                            cases he
                            rw [add_cell]
                            refine (((New.refl w3).alloc _).cell (p := ⟨b', off' + j, none⟩) hb').trans ?_
                            rw [hc' j hj]
                            have : u = .int .u8 ((M k j).toNat : Nat) := by simpa [numL, hj, eq_comm] using hu
                            rw [this]
                            have := hbk.out j hj
                            congr 2
                            omega
                          have hone := Lib.hid (numL_one .u8 (fun t => (M k t).toNat) sz)
                          have hlen : Hid ((numL .u8 (fun t => (M k t).toNat) sz).length = sz * 1) := by show _ = _; rw [numL_len, Nat.mul_one]
                          have hlitH := Lib.hid hlit
                          have hcaH : (w3.alloc (.cells #[] 5)).cell? ⟨bA, oA + k, none⟩ = some (.slice (some a) sz (C k)) := (((New.refl w3).alloc (.cells #[] 5)).cell (lt_of_cell ca)).trans ca
                          obtain ⟨nl, hnl⟩ : ∃ nl, Hid (nl = numL .u8 (fun t => (M k t).toNat) sz) := ⟨_, rfl⟩
                          rw [← hnl.out] at hsrc hone hlen
                          clear hRA hlit ca
                          go_wp2_with fail
                          refine hcall.out.mono ?_
                          rintro e w4 ⟨rfl, rfl⟩
                          clear hcall
                          go_wp2_with (first | (at_builtin; refine wpList_append_own _ rfl _ _ 32 rfl w3.heap.size 5 i8 _ 1 1 Try.underlying32 hi8 hw0 hw1 hw2 rfl (by decide) (Value.slice (some ⟨w3.heap.size, 0, none⟩) 0 0) 0 [] rfl hlitH.out a sz (C k) nl rfl hlen.out hsrc.out hone.out (by unfold maxLen; omega) (by omega) (by simp) ?_; intro v3 w5 hown5 hgrow hnil; have hn5 : New w3 w5 := (New.refl w3).append' hgrow (fun g hg => by cases hg; exact Nat.le_refl _); rw [List.nil_append, Nat.zero_add, hnl.out] at hown5; obtain ⟨A3, c3, rfl, hcp⟩ := CopyP.of_own hown5; obtain ⟨co5, cf5⟩ := hcell.out _ hn5))
                          obtain ⟨g, h1, h2⟩ := hend.out A3 c3 w5 hn5 hcp
                          have h1H := Lib.hid h1
                          have h2H := Lib.hid h2
                          clear h1 h2 hend hcell hro hRkH hlitH co5 cf5 hown5 hgrow hnil hcp hsrc hone hlen
                          go_wp2
                          go_roundw
                          case rel => exact ⟨k + 1, _, _, _, _, by go_num, by omega, h1H.out, h2H.out⟩
                          case measure => simp [intOf]; omega
                    · have hki : k = i := by omega
                      subst hki
                      rw [show min k n = n by omega] at hown
                      obtain ⟨h, hh⟩ : ∃ h, Hid (h = (hfL G n).length) := ⟨_, rfl⟩
                      obtain ⟨AH, cH, hvE, hcH1, hcH2, hAH, _⟩ := own_open hown
                      rw [← hh.out] at hvE hown
                      obtain rfl : u15 = .slice AH h cH := hvE
                      have hh12 : h ≤ 12 := by rw [hh.out]; exact Nat.le_trans (hfL_len G n) n12
                      have hnegk : ¬ (k : Int) < (k : Int) := by omega
                      have hownH := Lib.hid hown
                      have hrH := Lib.hid hro
                      have hwsz := hro.out.nw.size
                      have hAHl : Hid (∀ g, AH = some ⟨g, 0, none⟩ → g < w3.heap.size) := fun g e => by
                        rcases hownH.out.2 with ⟨h1, _⟩ | ⟨g', cap, cur, h1, _, hg1, _⟩
                        · cases h1; cases e
                        · cases h1; cases e
                          exact (Array.getElem?_eq_some_iff.1 hg1).1
                      clear hown hAH hcH1 hcH2 hro hkl hk
                      go_wp2_with fail
                      go_loopw [19, 16] (fun x uv wr => ∃ j : Nat, x = .int .i64 j ∧ j ≤ pn ∧ wr.ownsRow w3.heap.size 3 1 uv ((pfL G n j).take h).length (((pfL G n j).take h).map encI) ∧ Hid (RO wa o k k 0 sz w3.heap.size G V Ad Gr Cp (rb0 G M) wr) ∧ Hid (wr.ownsRow wa.heap.size 3 1 (.slice AH h cH) h ((hfL G n).map encI)) ∧ Hid (w3.heap.size ≤ wr.heap.size)) (fun x _ _ => pn - (intOf x).toNat)
                      case atStart => exact ⟨0, rfl, by omega, by rw [show (pfL G n 0).take h = [] by simp [pfL]]; exact World.ownsRow_nil _ _ _ _, hrH.out, hownH.out, Nat.le_refl _⟩
                      case round =>
                        clear hrH hownH
                        obtain ⟨j, rfl, hj, huv, hro, hhv, hws⟩ := hrel
                        obtain ⟨w5, rfl⟩ : ∃ w5, w5 = wr := ⟨wr, rfl⟩
                        obtain ⟨AU, cU, hue, hcU1, hcU2, _, _⟩ := own_open huv
                        obtain ⟨ul, hul⟩ : ∃ ul, Hid (ul = (pfL G n j).take h) := ⟨_, rfl⟩
                        rw [← hul.out] at hue huv hcU1
                        obtain ⟨lu, hlu⟩ : ∃ lu, Hid (lu = ul.length) := ⟨_, rfl⟩
                        rw [← hlu.out] at hue huv hcU1
                        obtain rfl : u16 = .slice AU lu cU := hue
                        by_cases hjp : j < pn
                        · have a1 : (j : Int) < (pn : Int) := by omega
                          by_cases hluh : lu < h
                          · have a2 : (lu : Int) < (h : Int) := by omega
                            have hll : ((pfL G n j).take h).length < h := by rw [← hul.out, ← hlu.out]; exact hluh
                            have hcall := Lib.hid (hhas.out ((n : Int) + (j : Int)) w5 hro.out.nw)
                            have hgj : Hid (hasD D s ((n : Int) + (j : Int)) = G (n + j)) := by
                              have := congrFun hG.out (n + j)
                              rw [this]
                              show hasD D s ((n : Int) + (j : Int)) = hasD D s ((n + j : Nat) : Int)
                              push_cast
                              rfl
                            rw [hgj.out] at hcall
                            cases hg : G (n + j) with
                            | true =>
                              rw [hg] at hcall
                              have hul2 : Hid ((pfL G n (j + 1)).take h = ul) := by show _ = _; rw [ul_gone hg, hul.out]
                              have huv2 := Lib.hid huv
                              clear hg huv
                              go_wp2_with fail
                              refine hcall.out.mono ?_
                              rintro e w6 ⟨rfl, rfl⟩
                              clear hcall
                              go_wp2
                              go_roundw
                              case rel => exact ⟨j + 1, by go_num, by omega, by rw [hul2.out, ← hlu.out]; exact huv2.out, hro.out, hhv.out, hws.out⟩
                              case measure => simp [intOf]; omega
                            | false =>
                              rw [hg] at hcall
                              have hul2 : Hid ((pfL G n (j + 1)).take h = ul ++ [j]) := by show _ = _; rw [ul_yes hll hg, hul.out]
                              have hws5 := hws.out
                              clear hg
                              go_wp2_with fail
                              refine hcall.out.mono ?_
                              rintro e w6 ⟨rfl, rfl⟩
                              clear hcall
                              go_wp2_with (at_builtin; refine wpList_append_own _ rfl _ _ 29 rfl w3.heap.size 3 i0 _ 1 8 Try.underlying29 hi0 hz0 hz1 hz2 rfl (by decide) _ lu (ul.map encI) rfl (huv.alloc _) ⟨w5.heap.size, 0, none⟩ 1 1 [.int .i64 j] rfl rfl (World.news_of_block (cs := #[.int .i64 _]) (t := 3) (fr := (0, 0)) (heap_alloc_new w5 _)) (by simp [Value.oneCell']) (by unfold maxLen; omega) (by omega) (by simp; omega) ?_; intro v6 w6 hown6 hgrow hnil)
                              have hlo6 : ∀ r, (Value.slice AU lu cU).ownBlock = some r → w3.heap.size ≤ r := fun r e => ((huv.alloc (.cells #[.int .i64 (j : Int)] 3)).lt _ e).1
                              have hro6 := Lib.hid ((hro.out.new ((New.refl w5).alloc _)).far hgrow hlo6)
                              have hhv6 : Hid (w6.ownsRow wa.heap.size 3 1 (.slice AH h cH) h ((hfL G n).map encI)) := own_keep (hhv.out.alloc _) hgrow hAHl.out hlo6
                              have hown7 : Hid (w6.ownsRow w3.heap.size 3 1 v6 ((pfL G n (j + 1)).take h).length (((pfL G n (j + 1)).take h).map encI)) := by
                                rw [hul2.out, List.length_append, List.map_append, ← hlu.out]
                                exact hown6
                              have hws6 : Hid (w3.heap.size ≤ w6.heap.size) := by have := hgrow.size; simp at this; show _ ≤ _; omega
                              clear huv hown6 hgrow hnil hlo6 hro hhv hws
                              go_wp2
                              go_roundw
                              case rel => exact ⟨j + 1, by go_num, by omega, hown7.out, hro6.out, hhv6.out, hws6.out⟩
                              case measure => simp [intOf]; omega
                          · have a2 : ¬ (lu : Int) < (h : Int) := by omega
                            have hul2 : Hid ((pfL G n (j + 1)).take h = ul) := by show _ = _; rw [ul_full (by rw [← hul.out, ← hlu.out]; exact hluh), hul.out]
                            have huv2 := Lib.hid huv
                            clear huv
                            go_wp2
                            go_roundw
                            case rel => exact ⟨j + 1, by go_num, by omega, by rw [hul2.out, ← hlu.out]; exact huv2.out, hro.out, hhv.out, hws.out⟩
                            case measure => simp [intOf]; omega
                        · have hjpn : j = pn := by omega
                          subst hjpn
                          have hluh : lu = h := by
                            rw [hlu.out, hul.out, List.length_take]
                            have := hpf.out
                            rw [← hh.out] at this
                            omega
                          subst hluh
                          have huvH := Lib.hid huv
                          have hws5 := hws.out
                          have hHm : Hid (∀ a, a < lu → (hfL G n).getD a 0 < n ∧ G ((hfL G n).getD a 0) = true) := fun a ha => hfL_mem.1 (get_mem (by rw [← hh.out]; exact ha))
                          obtain ⟨gH, hgH⟩ : ∃ gH, Hid (0 < lu → AH = some ⟨gH, 0, none⟩) := by
                            obtain ⟨A0, c0, he0, _, _, h3, _⟩ := own_open hhv.out
                            cases he0
                            by_cases h0 : 0 < lu
                            · obtain ⟨g, hg, _⟩ := h3 h0
                              exact ⟨g, fun _ => hg⟩
                            · exact ⟨0, fun h => absurd h h0⟩
                          have hro50 : Hid (RO wa o k k 0 sz w5.heap.size (Ga G (hfL G n) 0) V Ad Gr Cp (rb0 G M) w5) := by rw [Ga_zero]; exact hro.out.later hws5
                          have hkH := Lib.hid hhv.out
                          clear huv hro hws hhv hcU1 hcU2
                          go_wp2_with fail
                          go_loopw [159] (fun x wr => ∃ (a : Nat) (V : Nat → Value) (Ad : Nat → Option Addr) (Gr Cp : Nat → Nat), x = .int .i64 a ∧ a ≤ lu ∧ Hid (RO wa o k k 0 sz wr.heap.size (Ga G (hfL G n) a) V Ad Gr Cp (rb0 G M) wr) ∧ Hid (wr.ownsRow wa.heap.size 3 1 (.slice AH lu cH) lu ((hfL G n).map encI)) ∧ Hid (wr.ownsRow w3.heap.size 3 1 (.slice AU lu cU) lu (ul.map encI))) (fun x _ => lu - (intOf x).toNat)
                          case atStart => exact ⟨0, _, _, _, _, rfl, by omega, hro50.out, hkH.out, huvH.out⟩
                          case round =>
                            clear hro50 hkH huvH
                            obtain ⟨a, V6, Ad6, Gr6, Cp6, rfl, ha, hro6, hhv6, huv6⟩ := hrel
                            obtain ⟨w6, rfl⟩ : ∃ w6, w6 = wr := ⟨wr, rfl⟩
                            by_cases hal : a < lu
                            · obtain rfl : AH = some ⟨gH, 0, none⟩ := hgH.out (by omega)
                              have hHa := hHm.out a hal
                              have cH6 : w6.cell? ⟨gH, a, none⟩ = some (.int .i64 ((hfL G n).getD a 0 : Nat)) := by
                                rw [hhv6.out.cellAt a (by omega)]
                                have hl2 : a < (hfL G n).length := by rw [← hh.out]; exact hal
                                simp [encI, List.getD, hl2]
                              obtain ⟨q, hq⟩ : ∃ q, Hid (q = (hfL G n).getD a 0) := ⟨_, rfl⟩
                              rw [← hq.out] at cH6 hHa
                              have hqk : q < k := by have := hn'.out; omega
                              have a0 : (0 : Int) ≤ (a : Int) := by omega
                              have a1 : (a : Int) < (lu : Int) := by omega
                              have q0 : (0 : Int) ≤ (q : Int) := by omega
                              have q1 : (q : Int) < (k : Int) := by omega
                              have hwsz6 := hro6.out.nw.size
                              have hal2 : Hid (a < (hfL G n).length) := by rw [← hh.out]; exact hal
                              have hnA := (New.refl w6).alloc (.cells (madeCells #[.int .u8 0] sz) 5)
                              have hro7 := hro6.out.new hnA
                              have hrow7 : RowK 5 .u8 (w6.alloc (.cells (madeCells #[.int .u8 0] sz) 5)) w6.heap.size sz (fun _ => 0) := RowK.of_rowIs (World.rowIs_made w6 (.int .u8 0) sz 5) (Nat.le_refl _) fun j hj => rfl
                              have hadd := hro7.addK (j := q) (c := sz) (g := w6.heap.size) (A := some ⟨w6.heap.size, 0, none⟩) (f := fun _ => 0) hqk (Nat.zero_le _) (fun _ => ⟨rfl, hrow7, Nat.le_refl _⟩) ⟨Nat.le_refl _, by unfold maxLen; omega⟩ (fun _ => by omega) hwsz6 hnA.size (by rw [hq.out]; exact Ga_new hal2.out)
                              rw [hq.out, Ga_next G hal2.out, ← hq.out] at hadd
                              have hro8 := Lib.hid (hadd.congr (F' := rb0 G M) (fun x t _ _ _ => by
                                unfold up
                                by_cases e : x = q
                                · rw [if_pos e, e]; unfold rb0; rw [if_pos hHa.2]
                                · rw [if_neg e]) (rb0_lt G M))
                              have co7 := hro7.out.cell hqk
                              have cf7 := hro7.out.frozen q
                              have hhv8 : Hid (((w6.alloc (.cells (madeCells #[.int .u8 0] sz) 5)).setCell ⟨o, q, none⟩ (.slice (some ⟨w6.heap.size, 0, none⟩) sz sz)).ownsRow wa.heap.size 3 1 (.slice (some ⟨gH, 0, none⟩) lu cH) lu ((hfL G n).map encI)) := (own_new hhv6.out hnA).kept (grown_set _ _ _ _) (.inr (row_ne_own (own_new hhv6.out hnA) hro7.out (by decide)))
                              have huv8 : Hid (((w6.alloc (.cells (madeCells #[.int .u8 0] sz) 5)).setCell ⟨o, q, none⟩ (.slice (some ⟨w6.heap.size, 0, none⟩) sz sz)).ownsRow w3.heap.size 3 1 (.slice AU lu cU) lu (ul.map encI)) := (own_new huv6.out hnA).kept (grown_set _ _ _ _) (.inr (row_ne_own (own_new huv6.out hnA) hro7.out (by decide)))
                              generalize V6 q = vq at co7
                              clear hadd hrow7 hro7 hnA hro6 hhv6 huv6
                              go_wp2
                              go_roundw
                              case rel => exact ⟨a + 1, _, _, _, _, by go_num, by omega, hro8.out, hhv8.out, huv8.out⟩
                              case measure => simp [intOf]; omega
                            · have hale : a = lu := by omega
                              subst hale
                              have haneg : ¬ (a : Int) < (a : Int) := by omega
                              have hkk : Hid (0 < a → RowK 3 .i64 w6 gH a (fun q => (hfL G n).getD q 0) ∧ ∃ gU, AU = some ⟨gU, 0, none⟩ ∧ RowK 3 .i64 w6 gU a (fun q => (pfL G n j).getD q 0)) := fun h0 => by
                                have h1 := hhv6.out
                                rw [hgH.out h0, ← numL_list, ← hh.out] at h1
                                have h2 := huv6.out
                                obtain ⟨gU, cU', he2, _, _⟩ := h2.form h0
                                cases he2
                                have h3 : ul.map encI = numL .i64 (fun q => ul.getD q 0) a := by rw [← numL_list, ← hlu.out]
                                rw [h3] at h2
                                refine ⟨RowK.of_own h1, gU, rfl, (RowK.of_own h2).congr fun q hq' => ?_⟩
                                rw [hul.out, take_get hq']
                              have hro7 : Hid (RO wa o k k 0 sz w6.heap.size (Ga G (hfL G n) a) V6 Ad6 Gr6 Cp6 (Fk G n j M 0) w6) := by rw [Fk_zero]; exact hro6.out
                              have hPl : Hid (0 < a → Pl k n a G (fun b => (pfL G n j).getD b 0) (fun q => (hfL G n).getD q 0)) := fun h0 => by
                                have := Pl_of (N := k) (n := n) (p := j) (G := G) (by rw [← hh.out]; omega) hpf.out p3 n1 n12 hn'.out
                                rw [← hh.out] at this
                                exact this
                              have hmk3 := run_make_row' (P := Try.prog) 53 29 (.slice none 0 0) 24 Try.underlying53 info3U rfl .i64 .i64 a (by omega) (by omega)
                              have hmk4 := run_make_row' (P := Try.prog) 29 3 (.int .i64 0) 8 Try.underlying29 infoI3 rfl .i64 .i64 a (by omega) (by omega)
                              clear hhv6 huv6 hro6 ha
                              go_wp2_with fail
                              go_loopw [22] (fun x wr => ∃ t : Nat, x = .int .i64 t ∧ t ≤ sz ∧ Hid (RO wa o k k 0 sz w6.heap.size (Ga G (hfL G n) a) V6 Ad6 Gr6 Cp6 (Fk G n j M t) wr) ∧ Hid (0 < a → RowK 3 .i64 wr gH a (fun q => (hfL G n).getD q 0) ∧ ∃ gU, AU = some ⟨gU, 0, none⟩ ∧ RowK 3 .i64 wr gU a (fun q => (pfL G n j).getD q 0)) ∧ Hid (w6.heap.size ≤ wr.heap.size)) (fun x _ => sz - (intOf x).toNat)
                              case atStart => exact ⟨0, rfl, by omega, hro7.out, hkk.out, Nat.le_refl _⟩
                              case round =>
                                clear hro7 hkk
                                obtain ⟨t, rfl, ht, hro7, hkk, hws7⟩ := hrel
                                obtain ⟨w7, rfl⟩ : ∃ w7, w7 = wr := ⟨wr, rfl⟩
                                by_cases hgo : t < sz ∧ 0 < a
                                · obtain ⟨htl, ha0⟩ := hgo
                                  obtain rfl : AH = some ⟨gH, 0, none⟩ := hgH.out ha0
                                  obtain ⟨kH7, gU, rfl, kU7⟩ := hkk.out ha0
                                  have hPl' := hPl.out ha0
                                  have a3 := hPl'.h3
                                  have hPlH := Lib.hid hPl'
                                  have kH7H := Lib.hid kH7
                                  have kU7H := Lib.hid kU7
                                  have t1 : (t : Int) < (sz : Int) := by omega
                                  have t2 : (0 : Int) < (a : Int) := by omega
                                  have t0 : (0 : Int) ≤ (t : Int) := by omega
                                  obtain ⟨U, hU⟩ : ∃ U : Nat → Nat, Hid (U = fun b => (pfL G n j).getD b 0) := ⟨_, rfl⟩
                                  obtain ⟨H, hH⟩ : ∃ H : Nat → Nat, Hid (H = fun q => (hfL G n).getD q 0) := ⟨_, rfl⟩
                                  rw [← hH.out] at kH7H
                                  rw [← hU.out] at kU7H
                                  have u3 : Hid (∀ b, b < a → U b < 3) := by rw [hU.out]; exact hPl'.u3
                                  have hupp : Hid (∀ b, b < a → n + U b < k ∧ G (n + U b) = false) := by rw [hU.out]; exact hPl'.up
                                  obtain ⟨W, hW⟩ : ∃ W : Nat → Nat, Hid (W = fun b => wantF n (rb0 G M) U b t) := ⟨_, rfl⟩
                                  clear hPl' kH7 kU7
                                  go_wp2_with fail
                                  obtain ⟨w8, hw8⟩ : ∃ w8, w8 = (w7.alloc (.cells (madeCells #[.slice none 0 0] a) 29)).alloc (.cells (madeCells #[.int .i64 0] a) 3) := ⟨_, rfl⟩
                                  have hom : Hid (w8.rowIs w7.heap.size 29 a (ouF (fun _ => .slice none 0 0) 0 (.slice none 0 0))) := by
                                    rw [hw8, ouF_zero]; exact (World.rowIs_made w7 (.slice none 0 0) a 29).alloc _
                                  have hov : Hid (w8.rowIs (w7.heap.size + 1) 3 a (vF W 0 0)) := by
                                    have := World.rowIs_made (w7.alloc (.cells (madeCells #[.slice none 0 0] a) 29)) (.int .i64 0) a 3
                                    simp only [World.size_alloc] at this
                                    rw [hw8, ← vF_zero]; exact this
                                  have hn8 : Hid (New w7 w8) := by rw [hw8]; exact ((New.refl w7).alloc _).alloc _
                                  rw [← hw8]
                                  clear hw8
                                  go_loopw [187] (fun x wr => ∃ (b : Nat) (Gm Cm : Nat → Nat), x = .int .i64 b ∧ b ≤ a ∧ Hid (New w7 wr) ∧ Hid (wr.rowIs w7.heap.size 29 a (ouF (fun i => .slice (some ⟨Gm i, 0, none⟩) a (Cm i)) b (.slice none 0 0))) ∧ Hid (∀ i, i < b → RowK 3 .i64 wr (Gm i) a (fun q => fcP (U i) (H q)) ∧ a ≤ Cm i ∧ Cm i ≤ maxLen ∧ w7.heap.size + 1 < Gm i) ∧ Hid (wr.rowIs (w7.heap.size + 1) 3 a (vF W b 0))) (fun x _ => a - (intOf x).toNat)
                                  case atStart => exact ⟨0, fun _ => 0, fun _ => 0, rfl, by omega, hn8.out, by have := hom.out; rw [ouF_zero] at this ⊢; exact this, fun i hi => absurd hi (Nat.not_lt_zero _), hov.out⟩
                                  case round =>
                                    clear hom hov hn8
                                    obtain ⟨b, Gm, Cm, rfl, hb', hn9, hom, hmr, hov⟩ := hrel
                                    obtain ⟨w9, rfl⟩ : ∃ w9, w9 = wr := ⟨wr, rfl⟩
                                    by_cases hba : b < a
                                    · have b0 : (0 : Int) ≤ (b : Int) := by omega
                                      have b1 : (b : Int) < (a : Int) := by omega
                                      have hub := u3.out b hba
                                      have hup := hupp.out b hba
                                      have cu := (kU7H.out.new hn9.out).cell hba
                                      have cv := hov.out.cell hba
                                      rw [vF_at] at cv
                                      have cvf := hov.out.frozen b
                                      obtain ⟨u, hu⟩ : ∃ u, Hid (u = U b) := ⟨_, rfl⟩
                                      rw [← hu.out] at cu hub hup
                                      obtain ⟨bA, oA, hAe, hbA, hcA⟩ := hM0.out.2.1 (by omega)
                                      subst hAe
                                      have hn79 : Hid (New wa w9) := hro7.out.nw.next hn9.out
                                      have ca := (hn79.out.cell hbA).trans (hcA (n + u) hup.1)
                                      have hLu := (hokL.out (n + u) hup.1 hup.2).1
                                      have hRu := ((hM0.out.2.2 (n + u) hup.1).1.new hn79.out)
                                      rw [hLu] at ca hRu
                                      obtain ⟨bR, oR, hRe, hbR, hcR⟩ := hRu.2 (by omega)
                                      rw [hRe] at ca
                                      have cr := hcR t htl
                                      have hby := hb0.out (n + u) hup.1 t (by rw [hLu]; exact htl)
                                      obtain ⟨y, hy⟩ : ∃ y : Nat, M (n + u) t = y ∧ y < 256 := ⟨(M (n + u) t).toNat, by omega, by omega⟩
                                      rw [hy.1] at cr
                                      have hyl := hy.2
                                      have hyr : Hid (y = rb0 G M (n + u) t) := by
                                        show y = rb0 G M (n + u) t
                                        unfold rb0
                                        rw [if_neg (by rw [hup.2]; simp), hy.1]
                                        simp
                                        omega
                                      have hnu1 : (n : Int) + (u : Int) < (k : Int) := by omega
                                      have hnu0 : (0 : Int) ≤ (n : Int) + (u : Int) := by omega
                                      have hyw : IntKind.i64.wrap (y : Int) = (y : Int) := IntWalk.i64_in _ (by omega)
                                      have hov2 : Hid ((w9.setCell ⟨w7.heap.size + 1, b, none⟩ (.int .i64 (y : Nat))).rowIs (w7.heap.size + 1) 3 a (vF W b y)) := by
                                        have := hov.out.set b (.int .i64 ((y : Nat) : Int))
                                        rw [vF_set] at this
                                        exact this
                                      have hgr9 := grown_set w9 (w7.heap.size + 1) b (.int .i64 ((y : Nat) : Int))
                                      have hom2 : Hid ((w9.setCell ⟨w7.heap.size + 1, b, none⟩ (.int .i64 (y : Nat))).rowIs w7.heap.size 29 a (ouF (fun i => .slice (some ⟨Gm i, 0, none⟩) a (Cm i)) b (.slice none 0 0))) := row_grown hom.out hgr9 (by simp)
                                      have hmr2 : Hid (∀ i, i < b → RowK 3 .i64 (w9.setCell ⟨w7.heap.size + 1, b, none⟩ (.int .i64 (y : Nat))) (Gm i) a (fun q => fcP (U i) (H q)) ∧ a ≤ Cm i ∧ Cm i ≤ maxLen ∧ w7.heap.size + 1 < Gm i) := fun i hi => by
                                        obtain ⟨x1, x2, x3, x4⟩ := hmr.out i hi
                                        exact ⟨x1.grown hgr9 (by simp; omega), x2, x3, x4⟩
                                      have hn92 : Hid (New w7 (w9.setCell ⟨w7.heap.size + 1, b, none⟩ (.int .i64 (y : Nat)))) := hn9.out.grown1 hgr9 (by omega)
                                      have hcA2 := Lib.hid hcA
                                      clear hcA hcR hRu hy hby hgr9 hom hmr hov hn9 hLu hup hbR
                                      go_wp2_with fail
                                      obtain ⟨w10, hw10⟩ : ∃ w10, w10 = w9.setCell ⟨w7.heap.size + 1, b, none⟩ (.int .i64 ((y : Nat) : Int)) := ⟨_, rfl⟩
                                      rw [← hw10] at hov2 hom2 hmr2 hn92 ⊢
                                      clear hw10
                                      have hGml : Hid (∀ i, i < b → Gm i < w10.heap.size) := fun i hi => (hmr2.out i hi).1.lt
                                      have hov10 : Hid (w7.heap.size + 1 < w10.heap.size) := hov2.out.lt
                                      have hom10 : Hid (w7.heap.size < w10.heap.size) := hom2.out.lt
                                      go_loopw [27] (fun x wr => ∃ (i z : Nat) (mv : Value), x = .int .i64 i ∧ i ≤ n ∧ Hid (z = y ^^^ enN u (fun i t => (rb0 G M i t : Nat)) i t) ∧ z < 256 ∧ Hid (New w7 wr) ∧ Hid (wr.rowIs w7.heap.size 29 a (ouF (fun i => .slice (some ⟨Gm i, 0, none⟩) a (Cm i)) b mv)) ∧ Hid (∀ i, i < b → RowK 3 .i64 wr (Gm i) a (fun q => fcP (U i) (H q))) ∧ Hid (wr.rowIs (w7.heap.size + 1) 3 a (vF W b z)) ∧ wr.ownsRow w10.heap.size 3 1 mv (hfL G i).length (numL .i64 (fun q => fcP u (H q)) (hfL G i).length) ∧ Hid (w10.heap.size ≤ wr.heap.size)) (fun x _ => n - (intOf x).toNat)
                                      case atStart => exact ⟨0, y, .slice none 0 0, rfl, by omega, (by show y = y ^^^ enN u (fun i t => (rb0 G M i t : Nat)) 0 t; rw [enN_zero, Nat.xor_zero]), hyl, hn92.out, hom2.out, fun i hi => (hmr2.out i hi).1, hov2.out, World.ownsRow_nil _ _ _ _, Nat.le_refl _⟩
                                      case round =>
                                        clear hom2 hov2 hn92
                                        obtain ⟨i, z, mv, rfl, hin, hz, hzl, hn11, hom, hmr, hov, hmv, hws11⟩ := hrel
                                        obtain ⟨w11, rfl⟩ : ∃ w11, w11 = wr := ⟨wr, rfl⟩
                                        by_cases hil : i < n
                                        · have i1 : (i : Int) < (n : Int) := by omega
                                          have i00 : (0 : Int) ≤ (i : Int) := by omega
                                          have hcall := Lib.hid (hasInt_any (some ⟨gH, 0, none⟩) a cH (fun q => ((H q : Nat) : Int)) (i : Int) w11 ((kH7H.out.new hn11.out).rdI (by unfold maxLen; omega)))
                                          have hgi : Hid (hasD (fun q => ((H q : Nat) : Int)) a (i : Int) = G i) := by rw [hH.out, hh.out]; exact has_hole hil
                                          rw [hgi.out] at hcall
                                          have hpb : i * u ≤ 12 * 3 := Nat.mul_le_mul (by omega) (by omega)
                                          obtain ⟨pp, hpp⟩ : ∃ pp, Hid (i * u = pp) := ⟨_, rfl⟩
                                          rw [hpp.out] at hpb
                                          have hpi : (i : Int) * (u : Int) = (pp : Int) := by rw [← hpp.out, Int.natCast_mul]
                                          have hpw : IntKind.i64.wrap (pp : Int) = (pp : Int) := IntWalk.i64_in _ (by omega)
                                          obtain ⟨ff, hff⟩ : ∃ ff, Hid (ff = fcN u i) := ⟨_, rfl⟩
                                          have hfl : ff < 256 := by rw [hff.out]; exact fcN_lt u i
                                          have hex : Hid (∀ w', Calls Try.prog 26 #[.int .i64 pp] w' fun e w'' => e = .returned (.int .i64 (ff : Nat)) ∧ New w' w'') := fun w' => (expOf_any pp (by omega) w').mono fun e w'' ⟨h1, h2⟩ => ⟨by rw [h1, hff.out, ← hpp.out]; rfl, New.of_same h2⟩
                                          have cb := hom.out.cell hba
                                          rw [ouF_at] at cb
                                          have cbf := hom.out.frozen b
                                          have cv := hov.out.cell hba
                                          rw [vF_at] at cv
                                          have cvf := hov.out.frozen b
                                          cases hg : G i with
                                          | true =>
                                            rw [hg] at hcall
                                            have hzn2 : Hid (z = y ^^^ enN u (fun i t => (rb0 G M i t : Nat)) (i + 1) t) := by
                                              show z = y ^^^ (enN u (fun i t => (rb0 G M i t : Nat)) i t ^^^ mul (fcN u i) (((rb0 G M i t : Nat) : Int)).toNat)
                                              rw [hz.out]
                                              unfold rb0
                                              rw [if_pos hg]
                                              simp [gf.mul_zero]
                                            have hcnt : Hid ((hfL G (i + 1)).length = (hfL G i).length + 1) := by rw [hfL_yes hg, List.length_append]; exact rfl
                                            have hpos : Hid (H (hfL G i).length = i) := by
                                              show H (hfL G i).length = i
                                              rw [hH.out]
                                              show (hfL G n).getD (hfL G i).length 0 = i
                                              exact hfL_pos hil hg
                                            obtain ⟨cnt, hcn⟩ : ∃ cnt, Hid (cnt = (hfL G i).length) := ⟨_, rfl⟩
                                            rw [← hcn.out] at hmv hcnt hpos
                                            have hcl : cnt ≤ 12 := by rw [hcn.out]; exact Nat.le_trans (hfL_len G i) (by omega)
                                            have k0 := NewW.keep cb
                                            have hmvH := Lib.hid hmv
                                            have hws11' := hws11.out
                                            have hexs : Hid (∀ w', Calls Try.prog 26 #[.int .i64 pp] w' fun e w'' => e = .returned (.int .i64 (ff : Nat)) ∧ w'' = w') := fun w' => (expOf_any pp (by omega) w').mono fun e w'' ⟨h1, h2⟩ => ⟨by rw [h1, hff.out, ← hpp.out]; rfl, h2.symm⟩
                                            clear hg hgi hmv cbf cv cvf hz k0 hex
                                            go_wp2_with fail
                                            refine hcall.out.mono ?_
                                            rintro e w12 ⟨rfl, rfl⟩
                                            clear hcall
                                            go_wp2_with fail
                                            have hblk : w7.heap.size < w11.heap.size := lt_of_cell cb
                                            have hnA : New w11 (w11.alloc (.cells #[.int .i64 ((ff : Nat) : Int)] 3)).drew := ((New.refl w11).alloc _).drew
                                            have hX : Hid ((w11.alloc (.cells #[.int .i64 ((ff : Nat) : Int)] 3)).drew.rowIs w7.heap.size 29 a (ouF (fun i => .slice (some ⟨Gm i, 0, none⟩) a (Cm i)) b mv)) := row_new hom.out hnA
                                            have hY : Hid (mv.ownBlock ≠ some w7.heap.size) := row_ne_own hmvH.out hom.out (by decide)
                                            have hXc := hX.out.cell hba
                                            rw [ouF_at] at hXc
                                            have hXc := Lib.hid hXc
                                            have hXf := Lib.hid (hX.out.frozen b)
                                            have hXl := Lib.hid hX.out.lt
                                            have hnAH := Lib.hid hnA
                                            clear hnA
                                            go_region_law (first
                                                | (refine step_append_lies _ (by rfl) _ _ _ (by rfl) w10.heap.size 3 i0 _ 1 8 Try.underlying29 hi0 hz0 hz1 hz2 rfl (by decide) mv cnt (numL .i64 (fun q => fcP u (H q)) cnt) (by rfl) ((hmvH.out.alloc _).drew) ⟨w11.heap.size, 0, none⟩ 1 1 [.int .i64 (ff : Nat)] (by rfl) (by rfl) (World.news_of_block (cs := #[.int .i64 _]) (t := 3) (fr := (0, 0)) (heap_alloc_new w11 _)) (by simp [Value.oneCell']) (by omega) (by unfold maxLen; omega) (by omega) (by simp; omega) (w11.heap.size + 1) (by simp) ?_; intro gg6 c6 w6' hown6 hgrow hat hlt6; have g7 := row_grown hX.out hgrow hY.out; have hc6 := g7.cell hba; have hf6 := g7.frozen b; rw [ouF_at] at hc6)
                                                | (go_simp; go_at_call 26; refine (hexs.out _).mono ?_; rintro e w9' ⟨rfl, rfl⟩))
                                            all_goals
                                              have hlo6 : ∀ r, mv.ownBlock = some r → w10.heap.size ≤ r := fun r e => (hmvH.out.lt _ e).1
                                              have hgs := grown_set w6' w7.heap.size b (.slice (some ⟨gg6, 0, none⟩) (cnt + 1) c6)
                                              have hn6 : Hid (New w7 (w6'.setCell ⟨w7.heap.size, b, none⟩ (.slice (some ⟨gg6, 0, none⟩) (cnt + 1) c6))) := ((hn11.out.next hnAH.out).grown hgrow (fun g e => by have := hlo6 g e; have := hom10.out; omega)).grown1 hgs (Nat.le_refl _)
                                              have hom6 : Hid (w6'.rowIs w7.heap.size 29 a (ouF (fun i => .slice (some ⟨Gm i, 0, none⟩) a (Cm i)) b mv)) := row_grown hX.out hgrow hY.out
                                              have hom7 : Hid ((w6'.setCell ⟨w7.heap.size, b, none⟩ (.slice (some ⟨gg6, 0, none⟩) (cnt + 1) c6)).rowIs w7.heap.size 29 a (ouF (fun i => .slice (some ⟨Gm i, 0, none⟩) a (Cm i)) b (.slice (some ⟨gg6, 0, none⟩) (cnt + 1) c6))) := by
                                                have := hom6.out.set b (.slice (some ⟨gg6, 0, none⟩) (cnt + 1) c6)
                                                rw [ouF_set] at this
                                                exact this
                                              have hmr7 : Hid (∀ i, i < b → RowK 3 .i64 (w6'.setCell ⟨w7.heap.size, b, none⟩ (.slice (some ⟨gg6, 0, none⟩) (cnt + 1) c6)) (Gm i) a (fun q => fcP (U i) (H q))) := fun i hi => by
                                                have h1 := ((hmr.out i hi).new hnAH.out).grown hgrow (fun e => by have := hlo6 _ e; have := hGml.out i hi; omega)
                                                exact h1.grown hgs (fun e => h1.ne_row hom6.out (by decide) (by first | exact Option.some.inj e | exact (Option.some.inj e).symm | exact e | exact e.symm))
                                              have hov7 : Hid ((w6'.setCell ⟨w7.heap.size, b, none⟩ (.slice (some ⟨gg6, 0, none⟩) (cnt + 1) c6)).rowIs (w7.heap.size + 1) 3 a (vF W b z)) := row_grown (row_grown (row_new hov.out hnAH.out) hgrow (fun e => by have := hlo6 _ e; have := hov10.out; omega)) hgs (by simp)
                                              have hmv7 : Hid ((w6'.setCell ⟨w7.heap.size, b, none⟩ (.slice (some ⟨gg6, 0, none⟩) (cnt + 1) c6)).ownsRow w10.heap.size 3 1 (.slice (some ⟨gg6, 0, none⟩) (cnt + 1) c6) (hfL G (i + 1)).length (numL .i64 (fun q => fcP u (H q)) (hfL G (i + 1)).length)) := by
                                                rw [hcnt.out]
                                                have h1 : numL .i64 (fun q => fcP u (H q)) (cnt + 1) = numL .i64 (fun q => fcP u (H q)) cnt ++ [.int .i64 (ff : Nat)] := by
                                                  unfold numL
                                                  rw [List.range_succ, List.map_append]
                                                  congr 1
                                                  show [Value.int .i64 ((fcP u (H cnt) : Nat) : Int)] = _
                                                  rw [hpos.out, hff.out]
                                                  rfl
                                                rw [h1]
                                                exact hown6.kept hgs (.inr (row_ne_own hown6 hom6.out (by decide)))
                                              have hws7 : Hid (w10.heap.size ≤ (w6'.setCell ⟨w7.heap.size, b, none⟩ (.slice (some ⟨gg6, 0, none⟩) (cnt + 1) c6)).heap.size) := by
                                                show _ ≤ _
                                                rw [set_size]
                                                have := hgrow.size
                                                have := hnAH.out.size
                                                omega
                                              clear hown6 hgrow hlo6 hgs hom6 g7 hc6 hf6 hmvH hom hov hmr hn11 hws11 hat hlt6 hX hY hXc hXf hXl hnAH
                                              go_wp2
                                              go_roundw
                                              case rel => exact ⟨i + 1, z, _, by go_num, by omega, hzn2.out, hzl, hn6.out, hom7.out, hmr7.out, hov7.out, hmv7.out, hws7.out⟩
                                              case measure => simp [intOf]; omega
                                          | false =>
                                            rw [hg] at hcall
                                            have hik : i < k := by have := hn'.out; omega
                                            have cai := ((hro7.out.nw.next hn11.out).cell hbA).trans (hcA2.out i hik)
                                            have hLi := (hokL.out i hik hg).1
                                            have hRi := ((hM0.out.2.2 i hik).1.new (hro7.out.nw.next hn11.out))
                                            rw [hLi] at cai hRi
                                            obtain ⟨bR2, oR2, hRe2, hbR2, hcR2⟩ := hRi.2 (by omega)
                                            rw [hRe2] at cai
                                            have cr2 := hcR2 t htl
                                            have hby2 := hb0.out i hik t (by rw [hLi]; exact htl)
                                            obtain ⟨y2, hy2⟩ : ∃ y2 : Nat, M i t = y2 ∧ y2 < 256 := ⟨(M i t).toNat, by omega, by omega⟩
                                            rw [hy2.1] at cr2
                                            have hyl2 := hy2.2
                                            have hmo : Hid (∀ w', Calls Try.prog 25 #[.int .i64 ff, .int .i64 y2] w' fun e w'' => e = .returned (.int .i64 (mul ff y2 : Nat)) ∧ New w' w'') := fun w' => (mulOf_any ff y2 hfl hyl2 w').mono fun e w'' ⟨h1, h2⟩ => ⟨h1, New.of_same h2⟩
                                            obtain ⟨zz, hzz⟩ : ∃ zz, Hid (zz = mul ff y2) := ⟨_, rfl⟩
                                            have hzzl : zz < 256 := by rw [hzz.out]; exact mul_lt _ _ hfl
                                            rw [← hzz.out] at hmo
                                            have hxo : bits .xor .i64 (z : Int) (zz : Int) = ((z ^^^ zz : Nat) : Int) := i64_xor_nat z zz (by omega) (by omega)
                                            have hzn2 : Hid (z ^^^ zz = y ^^^ enN u (fun i t => (rb0 G M i t : Nat)) (i + 1) t) := by
                                              show z ^^^ zz = y ^^^ (enN u (fun i t => (rb0 G M i t : Nat)) i t ^^^ mul (fcN u i) (((rb0 G M i t : Nat) : Int)).toNat)
                                              rw [hz.out, hzz.out, hff.out, ← Nat.xor_assoc]
                                              congr 2
                                              unfold rb0
                                              rw [if_neg (by rw [hg]; simp), hy2.1]
                                              simp
                                              omega
                                            have hxl : z ^^^ zz < 256 := xor_lt8 hzl hzzl
                                            have hyw2 : IntKind.i64.wrap (y2 : Int) = (y2 : Int) := IntWalk.i64_in _ (by omega)
                                            have hcn2 : Hid (hfL G (i + 1) = hfL G i) := hfL_no hg
                                            have i2 : (i : Int) < (k : Int) := by omega
                                            have k0 := NewW.keep cai
                                            have k1 := NewW.keep cr2
                                            have k2 := NewW.keep cv
                                            have hmvH := Lib.hid hmv
                                            clear hg hgi hmv cb cbf hz hy2 hby2 hcR2 hRi hLi cai cr2 cv hbR2
                                            go_wp2_with fail
                                            refine hcall.out.mono ?_
                                            rintro e w12 ⟨rfl, rfl⟩
                                            clear hcall
                                            go_wp2_with fail
                                            (refine wp_region_new_tail 19 (by kernel_rfl) (by kernel_rfl) ?_; simp only [List.take_succ_cons, List.take_zero, List.drop_succ_cons, List.drop_zero]; (repeat (first | go_big_quiet_step (first | (go_at_call 26; exact NewW.call _ (hex.out _)) | (go_at_call 25; exact NewW.call _ (hmo.out _))) | quiet_step (first | (go_at_call 26; exact NewW.call _ (hex.out _)) | (go_at_call 25; exact NewW.call _ (hmo.out _))))); refine wpQuiet_nil ?_; rintro W5 ⟨⟨_, hn_W5⟩, rfl⟩)
                                            have hov5 := row_new hov.out hn_W5
                                            have hc5 := hov5.cell hba
                                            rw [vF_at] at hc5
                                            have hf5 := hov5.frozen b
                                            have hgs := grown_set W5 (w7.heap.size + 1) b (.int .i64 ((z ^^^ zz : Nat) : Int))
                                            have hn6 : Hid (New w7 (W5.setCell ⟨w7.heap.size + 1, b, none⟩ (.int .i64 ((z ^^^ zz : Nat) : Int)))) := (hn11.out.next hn_W5).grown1 hgs (by omega)
                                            have hom7 : Hid ((W5.setCell ⟨w7.heap.size + 1, b, none⟩ (.int .i64 ((z ^^^ zz : Nat) : Int))).rowIs w7.heap.size 29 a (ouF (fun i => .slice (some ⟨Gm i, 0, none⟩) a (Cm i)) b mv)) := row_grown (row_new hom.out hn_W5) hgs (by simp)
                                            have hmr7 : Hid (∀ i, i < b → RowK 3 .i64 (W5.setCell ⟨w7.heap.size + 1, b, none⟩ (.int .i64 ((z ^^^ zz : Nat) : Int))) (Gm i) a (fun q => fcP (U i) (H q))) := fun i hi => ((hmr.out i hi).new hn_W5).grown hgs (by have := (hmr2.out i hi).2.2.2; simp; omega)
                                            have hov7 : Hid ((W5.setCell ⟨w7.heap.size + 1, b, none⟩ (.int .i64 ((z ^^^ zz : Nat) : Int))).rowIs (w7.heap.size + 1) 3 a (vF W b (z ^^^ zz))) := by
                                              have := hov5.set b (.int .i64 ((z ^^^ zz : Nat) : Int))
                                              rw [vF_set] at this
                                              exact this
                                            have hmv7 : Hid ((W5.setCell ⟨w7.heap.size + 1, b, none⟩ (.int .i64 ((z ^^^ zz : Nat) : Int))).ownsRow w10.heap.size 3 1 mv (hfL G (i + 1)).length (numL .i64 (fun q => fcP u (H q)) (hfL G (i + 1)).length)) := by
                                              rw [hcn2.out]
                                              refine (own_new hmvH.out hn_W5).kept hgs (.inr fun e => ?_)
                                              have := ((own_new hmvH.out hn_W5).lt _ e).1
                                              have := hov10.out
                                              omega
                                            have hws7 : Hid (w10.heap.size ≤ (W5.setCell ⟨w7.heap.size + 1, b, none⟩ (.int .i64 ((z ^^^ zz : Nat) : Int))).heap.size) := by
                                              show _ ≤ _
                                              rw [set_size]
                                              exact Nat.le_trans hws11.out hn_W5.size
                                            clear hgs hov5 k0 k1 k2 hmvH hom hov hmr hn11 hws11
                                            go_wp2
                                            go_roundw
                                            case rel => exact ⟨i + 1, _, _, by go_num, by omega, hzn2.out, hxl, hn6.out, hom7.out, hmr7.out, hov7.out, hmv7.out, hws7.out⟩
                                            case measure => simp [intOf]; omega
                                        · have hine : i = n := by omega
                                          subst hine
                                          have hzW : Hid (z = W b) := by
                                            show z = W b
                                            rw [hz.out, hW.out, hyr.out, hu.out]
                                            show _ = wantF i (rb0 G M) U b t
                                            unfold wantF
                                            rw [Nat.xor_comm]
                                          rw [← hh.out] at hmv
                                          obtain ⟨gm, cm, rfl, hgm1, _⟩ := hmv.form ha0
                                          obtain ⟨_, _, he9, hle9, hlm9, _⟩ := own_open hmv
                                          cases he9
                                          have hom9 : Hid (w11.rowIs w7.heap.size 29 a (ouF (fun q => .slice (some ⟨up Gm b gm q, 0, none⟩) a (up Cm b cm q)) (b + 1) (.slice none 0 0))) := by
                                            have h1 := hom.out
                                            rw [ouF_next] at h1
                                            refine h1.congr fun q _ => ?_
                                            congr 1
                                            funext q
                                            by_cases e : q = b
                                            · rw [if_pos e, e, up_at, up_at]
                                            · rw [if_neg e, up_ne _ _ e, up_ne _ _ e]
                                          have hmr9 : Hid (∀ q, q < b + 1 → RowK 3 .i64 w11 (up Gm b gm q) a (fun x => fcP (U q) (H x)) ∧ a ≤ up Cm b cm q ∧ up Cm b cm q ≤ maxLen ∧ w7.heap.size + 1 < up Gm b gm q) := fun q hq' => by
                                            by_cases e : q = b
                                            · subst e
                                              rw [up_at, up_at]
                                              refine ⟨?_, hle9, hlm9, by have := hov10.out; omega⟩
                                              rw [← hu.out]
                                              exact RowK.of_own hmv
                                            · rw [up_ne _ _ e, up_ne _ _ e]
                                              exact ⟨hmr.out q (by omega), (hmr2.out q (by omega)).2⟩
                                          have hov9 : Hid (w11.rowIs (w7.heap.size + 1) 3 a (vF W (b + 1) 0)) := by
                                            have h1 := hov.out
                                            rw [hzW.out, vF_next] at h1
                                            exact h1
                                          clear hom hmr hov hmv hz hgm1
                                          go_wp2
                                          go_roundw
                                          case rel => exact ⟨b + 1, _, _, by go_num, by omega, hn11.out, hom9.out, hmr9.out, hov9.out⟩
                                          case measure => simp [intOf]; omega
                                    · have hbe : a = b := by omega
                                      subst hbe
                                      have hbn : ¬ (a : Int) < (a : Int) := by omega
                                      have hPl2 : Pl k n a G U H := by rw [hU.out, hH.out]; exact hPlH.out
                                      have hsv := Lib.hid (solve_place (t := t) (M := M) hPl2 hU.out hH.out hh.out hom.out (fun i hi => ⟨(hmr.out i hi).1, (hmr.out i hi).2.1, (hmr.out i hi).2.2.1⟩) hov.out hW.out)
                                      have hHl : Hid (∀ b, b < a → H b < k ∧ H b = (hfL G n).getD b 0) := fun b hb => ⟨by have := (hPl2.hl b hb).1; have := hPl2.nN; omega, by rw [hH.out]⟩
                                      have hn9H := Lib.hid hn9.out
                                      clear hom hmr hov hn9 hPl2 hb'
                                      go_wp2_with fail
                                      refine hsv.out.mono ?_
                                      rintro e w10 ⟨gs, cs, rfl, hgs, hrs, hn10⟩
                                      have hro10 : Hid (RO wa o k k 0 sz w6.heap.size (Ga G (hfL G n) a) V6 Ad6 Gr6 Cp6 (Fb G n j M t 0) w10) := by rw [Fb_zero]; exact (hro7.out.new hn9H.out).new hn10
                                      have hkH10 : Hid (RowK 3 .i64 w10 gH a H) := (kH7H.out.new hn9H.out).new hn10
                                      have hkU10 : Hid (RowK 3 .i64 w10 gU a U) := (kU7H.out.new hn9H.out).new hn10
                                      have hrs10 : Hid (RowK 3 .i64 w10 gs a (fun b => rbD G n j M (H b) t)) := RowK.of_rowIs hrs (Nat.le_refl _) fun _ _ => rfl
                                      have hws10 : Hid (w6.heap.size ≤ w10.heap.size) := Nat.le_trans hws7.out (Nat.le_trans hn9H.out.size hn10.size)
                                      clear hsv hrs hn10 hgs hn9H
                                      go_wp2_with fail
                                      go_loopw [250] (fun x wr => ∃ b : Nat, x = .int .i64 b ∧ b ≤ a ∧ Hid (RO wa o k k 0 sz w6.heap.size (Ga G (hfL G n) a) V6 Ad6 Gr6 Cp6 (Fb G n j M t b) wr) ∧ Hid (RowK 3 .i64 wr gH a H) ∧ Hid (RowK 3 .i64 wr gU a U) ∧ Hid (RowK 3 .i64 wr gs a (fun b => rbD G n j M (H b) t)) ∧ Hid (w6.heap.size ≤ wr.heap.size)) (fun x _ => a - (intOf x).toNat)
                                      case atStart => exact ⟨0, rfl, by omega, hro10.out, hkH10.out, hkU10.out, hrs10.out, hws10.out⟩
                                      case round =>
                                        clear hro10 hkH10 hkU10 hrs10 hws10
                                        obtain ⟨b, rfl, hb', hro, hkH2, hkU2, hrs2, hws2⟩ := hrel
                                        obtain ⟨w11, rfl⟩ : ∃ w11, w11 = wr := ⟨wr, rfl⟩
                                        by_cases hba : b < a
                                        · have b0 : (0 : Int) ≤ (b : Int) := by omega
                                          have b1 : (b : Int) < (a : Int) := by omega
                                          have cH := hkH2.out.cell hba
                                          have cs2 := hrs2.out.cell hba
                                          obtain ⟨hqk, hqe⟩ := hHl.out b hba
                                          obtain ⟨q, hq⟩ : ∃ q, Hid (q = H b) := ⟨_, rfl⟩
                                          rw [← hq.out] at cH hqk hqe cs2
                                          have hqeH := Lib.hid hqe
                                          have q0 : (0 : Int) ≤ (q : Int) := by omega
                                          have q1 : (q : Int) < (k : Int) := by omega
                                          have hbl : b < (hfL G n).length := by have := hh.out; omega
                                          have hgq : Ga G (hfL G n) a q = false := by rw [hqe]; exact Ga_in hba hbl
                                          have hv := (hro.out.val q hqk (.inr hgq)).1
                                          obtain ⟨hA, hRow⟩ := hro.out.row q hqk (.inr hgq) (by omega)
                                          have co := hro.out.out.cell hqk
                                          rw [hv, hA] at co
                                          have ct := hRow.cell htl
                                          have cf := rowK_frozen hRow t
                                          obtain ⟨x, hx⟩ : ∃ x, Hid (x = rbD G n j M q t) := ⟨_, rfl⟩
                                          have hxl : x < 256 := by rw [hx.out]; exact rbD_lt G n j M q t
                                          rw [← hx.out] at cs2
                                          have hxw : IntKind.u8.wrap (x : Int) = (x : Int) := IntWalk.u8_in _ (by omega)
                                          have hnext := Lib.hid (RO.fb_next hro.out hba hh.out hqe hqk htl)
                                          rw [← hx.out] at hnext
                                          have hgs := grown_set w11 (Gr6 q) t (.int .u8 ((x : Nat) : Int))
                                          have hkH3 : Hid (RowK 3 .i64 (w11.setCell ⟨Gr6 q, t, none⟩ (.int .u8 ((x : Nat) : Int))) gH a H) := hkH2.out.grown hgs (fun e => rowK_ne hRow hkH2.out (by decide) (Option.some.inj e))
                                          have hkU3 : Hid (RowK 3 .i64 (w11.setCell ⟨Gr6 q, t, none⟩ (.int .u8 ((x : Nat) : Int))) gU a U) := hkU2.out.grown hgs (fun e => rowK_ne hRow hkU2.out (by decide) (Option.some.inj e))
                                          have hrs3 : Hid (RowK 3 .i64 (w11.setCell ⟨Gr6 q, t, none⟩ (.int .u8 ((x : Nat) : Int))) gs a (fun b => rbD G n j M (H b) t)) := hrs2.out.grown hgs (fun e => rowK_ne hRow hrs2.out (by decide) (Option.some.inj e))
                                          have hws3 : Hid (w6.heap.size ≤ (w11.setCell ⟨Gr6 q, t, none⟩ (.int .u8 ((x : Nat) : Int))).heap.size) := by
                                            show _ ≤ _
                                            rw [set_size]
                                            exact hws2.out
                                          clear hqe hv hA hRow hgs hgq hbl hro hkH2 hkU2 hrs2 hws2
                                          go_wp2
                                          go_roundw
                                          case rel => exact ⟨b + 1, by go_num, by omega, hnext.out, hkH3.out, hkU3.out, hrs3.out, hws3.out⟩
                                          case measure => simp [intOf]; omega
                                        · have hbe : b = a := by omega
                                          have hroE : Hid (RO wa o k k 0 sz w6.heap.size (Ga G (hfL G n) a) V6 Ad6 Gr6 Cp6 (Fk G n j M (t + 1)) w11) := by
                                            have h1 := hro.out
                                            rw [hbe, hh.out, Fb_all, ← hh.out] at h1
                                            exact h1
                                          have hkE : Hid (0 < a → RowK 3 .i64 w11 gH a (fun q => (hfL G n).getD q 0) ∧ ∃ gU', some (⟨gU, 0, none⟩ : Addr) = some ⟨gU', 0, none⟩ ∧ RowK 3 .i64 w11 gU' a (fun q => (pfL G n j).getD q 0)) := fun _ => by
                                            have h1 := hkH2.out
                                            have h2 := hkU2.out
                                            rw [hH.out] at h1
                                            rw [hU.out] at h2
                                            exact ⟨h1, gU, rfl, h2⟩
                                          have hbn : ¬ (b : Int) < (a : Int) := by omega
                                          clear hro hkH2 hkU2 hrs2
                                          go_wp2
                                          go_roundw
                                          case rel => exact ⟨t + 1, by go_num, by omega, hroE.out, hkE.out, hws2.out⟩
                                          case measure => simp [intOf]; omega
                                · have hcond : ¬ (t : Int) < (sz : Int) ∨ ((t : Int) < (sz : Int) ∧ ¬ (0 : Int) < (a : Int)) := by omega
                                  have hro8 : Hid (RO wa o k k 0 sz w7.heap.size (Gz G n) V6 Ad6 Gr6 Cp6 (Fj G n j M n) w7) := by
                                    have h1 := (hro7.out.congr (F' := rbD G n j M) (fun i u _ _ hu => Fk_end (by have := hh.out; omega) hu) (rbD_lt G n j M)).later hws7.out
                                    rw [hh.out, Gz_start] at h1
                                    rw [Fj_begin]
                                    exact h1
                                  have hpa := Lib.hid (par_again hro8.out hn'.out n1 n12 p1 p3 hsl)
                                  have hnk : n ≤ k := by have := hn'.out; omega
                                  have hnk0 : (0 : Int) ≤ (n : Int) := by omega
                                  have hnk1 : (n : Int) ≤ (k : Int) := by omega
                                  clear hro7 hkk hPl
                                  rcases hcond with hc | ⟨hc, hc2⟩
                                  all_goals
                                    go_wp2_with fail
                                    refine hpa.out.mono ?_
                                    rintro e w8 ⟨B8, R8, C8, rfl, hR8, hB8, hRb8, hn8⟩
                                    have hro9 : Hid (RO wa o k k 0 sz w8.heap.size (Gz G (n + 0)) V6 Ad6 Gr6 Cp6 (Fj G n j M (n + 0)) w8) := (hro8.out.new hn8).later hn8.size
                                    have ho8 : Hid (o < w7.heap.size) := hro8.out.old.2
                                    have hR80 := Lib.hid hR8
                                    have hB80 : Hid (∀ q, B8 = some q → o < q.block) := fun q e => Nat.lt_of_lt_of_le ho8.out (hB8 q e)
                                    have hRb80 : Hid (∀ i q, i < j → R8 i = some q → o < q.block) := fun i q hi e => Nat.lt_of_lt_of_le ho8.out (hRb8 i q hi e)
                                    clear hpa hR8 hB8 hRb8 hn8 hro8
                                    go_wp2_with fail
                                    go_loopw [32] (fun x wr => ∃ (y : Nat) (V : Nat → Value) (Ad : Nat → Option Addr) (Gr Cp : Nat → Nat), x = .int .i64 y ∧ y ≤ j ∧ Hid (RO wa o k k 0 sz wr.heap.size (Gz G (n + y)) V Ad Gr Cp (Fj G n j M (n + y)) wr) ∧ Hid (RdM .u8 wr B8 j R8 (fun _ => sz) C8 (fun i t => (enN i (fun q t => (rbD G n j M q t : Nat)) n t : Nat)))) (fun x _ => j - (intOf x).toNat)
                                    case atStart => exact ⟨0, _, _, _, _, rfl, by omega, hro9.out, hR80.out⟩
                                    case round =>
                                      clear hro9 hR80
                                      obtain ⟨y, V9, Ad9, Gr9, Cp9, rfl, hy, hro, hR⟩ := hrel
                                      obtain ⟨w9, rfl⟩ : ∃ w9, w9 = wr := ⟨wr, rfl⟩
                                      by_cases hyj : y < j
                                      · have y1 : (y : Int) < (j : Int) := by omega
                                        have y0 : (0 : Int) ≤ (y : Int) := by omega
                                        have hcall := Lib.hid (hhas.out ((n : Int) + (y : Int)) w9 hro.out.nw)
                                        have hgy : Hid (hasD D s ((n : Int) + (y : Int)) = G (n + y)) := by
                                          have := congrFun hG.out (n + y)
                                          rw [this]
                                          show hasD D s ((n : Int) + (y : Int)) = hasD D s ((n + y : Nat) : Int)
                                          push_cast
                                          rfl
                                        rw [hgy.out] at hcall
                                        cases hg : G (n + y) with
                                        | false =>
                                          rw [hg] at hcall
                                          have hro2 : Hid (RO wa o k k 0 sz w9.heap.size (Gz G (n + (y + 1))) V9 Ad9 Gr9 Cp9 (Fj G n j M (n + (y + 1))) w9) := by
                                            have h1 := hro.out
                                            rw [Gz_skip hg, Fj_skip hg] at h1
                                            exact h1
                                          clear hg hro
                                          go_wp2_with fail
                                          refine hcall.out.mono ?_
                                          rintro e w10 ⟨rfl, rfl⟩
                                          clear hcall
                                          go_wp2
                                          go_roundw
                                          case rel => exact ⟨y + 1, _, _, _, _, by go_num, by omega, hro2.out, hR.out⟩
                                          case measure => simp [intOf]; omega
                                        | true =>
                                          rw [hg] at hcall
                                          have hm1 : n + y < k := by have := hn'.out; omega
                                          have m0 : (0 : Int) ≤ (n : Int) + (y : Int) := by omega
                                          have m1 : (n : Int) + (y : Int) < (k : Int) := by omega
                                          obtain ⟨bB, oB, hBe, hbB, hcB⟩ := hR.out.2.1 (by omega)
                                          subst hBe
                                          have cb := hcB y hyj
                                          have hRy := (hR.out.2.2 y hyj).1
                                          have hRyH := Lib.hid hRy
                                          have hwsz := hro.out.nw.size
                                          have hGy := Lib.hid hg
                                          obtain ⟨f, hf⟩ : ∃ f : Nat → Nat, Hid (f = fun t => enN y (fun q t => (rbD G n j M q t : Nat)) n t) := ⟨_, rfl⟩
                                          have hfl : Hid (∀ t, f t < 256) := by rw [hf.out]; exact fun t => enN_lt _ _ _ _
                                          have hend : Hid (∀ (A3 : Option Addr) (c3 : Nat) (w4 : World), New w9 w4 → CopyP sz f w9.heap.size A3 c3 w4 →
                                              ∃ V' Ad' Gr' Cp', RO wa o k k 0 sz (w4.setCell ⟨o, n + y, none⟩ (.slice A3 sz c3)).heap.size (Gz G (n + (y + 1))) V' Ad' Gr' Cp' (Fj G n j M (n + (y + 1))) (w4.setCell ⟨o, n + y, none⟩ (.slice A3 sz c3)) ∧
                                              RdM .u8 (w4.setCell ⟨o, n + y, none⟩ (.slice A3 sz c3)) (some ⟨bB, oB, none⟩) j R8 (fun _ => sz) C8 (fun i t => (enN i (fun q t => (rbD G n j M q t : Nat)) n t : Nat))) := fun A3 c3 w4 hn4 hcp => by
                                            rw [hf.out] at hcp
                                            have hsub : n + y - n = y := by omega
                                            obtain ⟨V', Ad', Gr', Cp', h1⟩ := RO.addC (hro.out.new hn4) hm1 (by omega) hGy.out (by rw [hsub]; exact hcp) (Nat.le_refl _) hwsz hn4.size
                                            exact ⟨V', Ad', Gr', Cp', h1, rdM_fresh (hR.out.new hn4) (grown_set _ _ _ _) hB80.out hRb80.out⟩
                                          have hcell : Hid (∀ w4, New w9 w4 → w4.cell? ⟨o, n + y, none⟩ = some (V9 (n + y)) ∧ w4.frozen? ⟨o, n + y, none⟩ = false) := fun w4 hn4 => ⟨(hro.out.new hn4).out.cell hm1, (hro.out.new hn4).out.frozen (n + y)⟩
                                          generalize V9 (n + y) = vk at hcell
                                          have hlit := World.ownsRow_lit (e := 5) (size := 1) w9 #[] 0 (Nat.le_refl _) (by unfold maxLen; omega) rfl
                                          have hcy : C8 y ≤ maxLen := (hR.out.2.2 y hyj).2.2
                                          clear hg hRy hcB hro hR
                                          have hRcl : (w9.alloc (.cells #[] 5)).cell? ⟨bB, oB + y, none⟩ = some (.slice (R8 y) sz (C8 y)) := (((New.refl w9).alloc (.cells #[] 5)).cell (lt_of_cell cb)).trans cb
                                          cases hRA : R8 y with
                                          | none =>
                                            rw [hRA] at cb hRyH hRcl
                                            have hs0 : Hid (sz = 0) := by
                                              by_cases h0 : 0 < sz
                                              · obtain ⟨b', off', he, _⟩ := hRyH.out.2 h0
                                                cases he
                                              · show sz = 0; omega
                                            clear hRA
                                            go_wp2_with fail
                                            refine hcall.out.mono ?_
                                            rintro e w4 ⟨rfl, rfl⟩
                                            have hsl0 := hs0.out
                                            have cb0 := cb
                                            rw [hsl0] at cb0 hRcl
                                            have hlitH := Lib.hid hlit
                                            obtain ⟨co4, cf4⟩ := hcell.out _ ((New.refl w9).alloc (.cells #[] 5))
                                            clear cb hcall hlit hsl0
                                            go_wp2_with (first | (at_builtin; refine wpList_append_none0 rfl _ _ 32 rfl w9.heap.size 5 i8 1 Try.underlying32 hi8 _ 0 (C8 y) [] rfl hlitH.out rfl ?_))
                                            obtain ⟨V', Ad', Gr', Cp', h1, h2⟩ := hend.out (some ⟨w9.heap.size, 0, none⟩) 0 (w9.alloc (.cells #[] 5)) ((New.refl w9).alloc _) ⟨⟨by have := hs0.out; omega, Nat.zero_le _⟩, fun h => by have := hs0.out; omega⟩
                                            have e1 : Value.slice (some ⟨w9.heap.size, 0, none⟩) sz 0 = .slice (some ⟨w9.heap.size, 0, none⟩) 0 0 := by rw [hs0.out]
                                            rw [e1] at h1 h2
                                            have h1H := Lib.hid h1
                                            have h2H := Lib.hid h2
                                            clear h1 h2 e1 hend hcell hRyH hlitH co4 cf4 hRcl cb0
                                            go_wp2
                                            go_roundw
                                            case rel => exact ⟨y + 1, _, _, _, _, by go_num, by omega, h1H.out, h2H.out⟩
                                            case measure => simp [intOf]; omega
                                          | some aR =>
                                            rw [hRA] at cb hRyH hRcl
                                            have hsrc : Hid (∀ i u, (numL .u8 f sz)[i]? = some u → (w9.alloc (.cells #[] 5)).cell? (aR.add i) = some u) := fun i u hu => by
                                              have hi : i < sz := by
                                                have := (List.getElem?_eq_some_iff.1 hu).1
                                                simpa [numL] using this
                                              obtain ⟨b', off', he, hb', hc'⟩ := hRyH.out.2 (show 0 < sz by omega)
                                              cases he
                                              rw [add_cell]
                                              refine (((New.refl w9).alloc _).cell (p := ⟨b', off' + i, none⟩) hb').trans ?_
                                              rw [hc' i hi]
                                              have : u = .int .u8 (f i : Nat) := by simpa [numL, hi, eq_comm] using hu
                                              rw [this, hf.out]
                                            have hone := Lib.hid (numL_one .u8 f sz)
                                            have hlen : Hid ((numL .u8 f sz).length = sz * 1) := by show _ = _; rw [numL_len, Nat.mul_one]
                                            have hlitH := Lib.hid hlit
                                            obtain ⟨nl, hnl⟩ : ∃ nl, Hid (nl = numL .u8 f sz) := ⟨_, rfl⟩
                                            rw [← hnl.out] at hsrc hone hlen
                                            clear hRA hlit
                                            go_wp2_with fail
                                            refine hcall.out.mono ?_
                                            rintro e w4 ⟨rfl, rfl⟩
                                            clear hcall
                                            go_wp2_with (first | (at_builtin; refine wpList_append_own _ rfl _ _ 32 rfl w9.heap.size 5 i8 _ 1 1 Try.underlying32 hi8 hw0 hw1 hw2 rfl (by decide) (Value.slice (some ⟨w9.heap.size, 0, none⟩) 0 0) 0 [] rfl hlitH.out aR sz (C8 y) nl rfl hlen.out hsrc.out hone.out (by unfold maxLen; omega) (by omega) (by simp) ?_; intro v3 w5 hown5 hgrow hnil; have hn5 : New w9 w5 := (New.refl w9).append' hgrow (fun g hg => by cases hg; exact Nat.le_refl _); rw [List.nil_append, Nat.zero_add, hnl.out] at hown5; obtain ⟨A3, c3, rfl, hcp⟩ := CopyP.of_own hown5; obtain ⟨co5, cf5⟩ := hcell.out _ hn5))
                                            obtain ⟨V', Ad', Gr', Cp', h1, h2⟩ := hend.out A3 c3 w5 hn5 hcp
                                            have h1H := Lib.hid h1
                                            have h2H := Lib.hid h2
                                            clear h1 h2 hend hcell hRyH hlitH co5 cf5 hown5 hgrow hnil hcp hsrc hone hlen hRcl cb
                                            go_wp2
                                            go_roundw
                                            case rel => exact ⟨y + 1, _, _, _, _, by go_num, by omega, h1H.out, h2H.out⟩
                                            case measure => simp [intOf]; omega
                                      · have hye : j = y := by omega
                                        subst hye
                                        have hyn : ¬ (j : Int) < (j : Int) := by omega
                                        have hfin : Hid (RebP k L (j : Int) D s M wa (.returned (.tuple #[.slice (some ⟨o, 0, none⟩) k k, .int .i64 0])) w9) := by
                                          show RebP _ _ _ _ _ _ _ _ _
                                          unfold RebP
                                          rw [hcode.out, if_pos rfl]
                                          have h1 : k - ((j : Int)).toNat = n := by have := hn'.out; simp; omega
                                          have h2 : ((j : Int)).toNat = j := by simp
                                          rw [h1, h2, ← hG.out, ← hsz.out]
                                          have h3 : n + j = k := by have := hn'.out; omega
                                          have hr := hro.out
                                          rw [h3] at hr
                                          have hr2 := hr.congr (F' := rbF G n j M) (fun q u hq _ _ => Fj_done hq) (rbF_lt G n j M)
                                          exact ⟨_, _, Ad9, Cp9, rfl, RO.rdAll hr2 (by omega) hsl (fun q hq => .inr (by unfold Gz; rw [if_pos hq])), hro.out.nw⟩
                                        clear hro hR
                                        go_wp2
                                        go_ret2
                                        exact hfin.out
  · refine (ParRebuild_bad N c m d p A B D R L C M w hM hD hp1 hp2 hrg).mono ?_
    rintro e w' ⟨he, rfl⟩
    exact RebP_bad (by unfold rbCode; rw [if_pos hrg]) (by decide) he (New.refl w)
end Go.Proofs.Ytjmjnodaohbpfaa.par
