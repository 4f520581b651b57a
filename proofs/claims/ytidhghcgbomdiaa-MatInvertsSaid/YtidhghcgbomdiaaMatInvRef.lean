/-
  Contract of the reference: the inverse of a matrix.
-/
import Derived.Test.YtidhghcgbomdiaaMatBig
namespace Go.Proofs.Ytidhghcgbomdiaa.mat
open Go.ChangeShapes Go.WideShapes Go.ChangeAt Go.RowKit Go.Proofs.Ytidhghcgbomdiaa.kit Go.Proofs.Ytidhghcgbomdiaa.gf Go.Proofs.Ytidhghcgbomdiaa.fld Go.Deep
set_option linter.unusedVariables false

def ivCode (n : Nat) (L : Nat → Nat) (M : Nat → Nat → Int) : Int := if mayM n L M = true then (if L 0 = n then (if (stR (fun i k => elN M i k) n n).2 = n then 0 else 10) else 1) else 4
def ivLen (n : Nat) (L : Nat → Nat) (M : Nat → Nat → Int) : Nat := if ivCode n L M = 0 then n else 0
def InvP (n : Nat) (X : Nat → Nat → Nat) (ln : Nat) (cd : Int) (w : World) (e : Ending) (w' : World) : Prop :=
  ∃ v, e = .returned (.tuple #[v, .int .i64 cd]) ∧ (∃ B d R1 C1, v = .slice B ln d ∧ RdM .i64 w' B ln R1 (fun _ => n) C1 (fun i k => (X i k : Nat))) ∧ New w w'
theorem solved_any (A V : Option Addr) (n ca cv kk : Nat) (R : Nat → Option Addr) (L C : Nat → Nat) (M : Nat → Nat → Int) (w : World) (h : RdM .i64 w A n R L C M) (hm : mayM n L M = true) (hL : L 0 = n)
    (hr : (stR (fun i k => elN M i k) n n).2 = n) (hV : RdI .i64 w V n (fun i => (unN kk i : Nat))) (hk : kk < n) :
    Calls Try.prog 55 #[.slice A n ca, .slice V n cv] w (SolP n (fun i => invN (fun i k => elN M i k) n i kk) w) := by
  by_cases h4 : n ≤ 4
  · exact solved_small A V n ca cv kk R L C M w h hm hL hr hV hk h4
  · exact solved_big A V n ca cv kk R L C M w h hm hL hr hV hk h4
/-- the rows of noughts make a matrix -/
theorem sst_of {w wr : World} {n : Nat} {G : Nat → Nat} (h : keepT w wr 30 3 n n n n G (fun _ _ => .int .i64 0)) (hn : n ≤ maxLen) (hG : ∀ i, i < n → w.heap.size ≤ G i) (hinj : ∀ i j, i < n → j < n → G i = G j → i = j) :
    SSt w w.heap.size wr.heap.size (w.heap.size) n n G (fun _ => n) (fun _ _ => 0) wr := by
  refine ⟨⟨⟨Nat.le_refl _, h.2.1.lt⟩, fun i hi => ⟨hG i hi, (h.2.2 i hi).lt⟩, fun i hi => rowIs_ne (h.2.2 i hi) h.2.1 (by decide), hinj, fun i hi => ⟨Nat.le_refl _, hn⟩, ?_, fun i hi => ?_⟩, h.1, Nat.le_refl _⟩
  · obtain ⟨cs, h1, _, h3⟩ := h.2.1
    exact ⟨cs, h1, fun i hi => by rw [h3 i hi]; unfold topF; rw [if_pos hi]⟩
  · exact RowV.of_rowIs (h.2.2 i hi) fun k hk => rfl
set_option maxRecDepth 100000 in
set_option maxHeartbeats 4000000 in
theorem MatInvert_any (A : Option Addr) (n c : Nat) (R : Nat → Option Addr) (L C : Nat → Nat) (M : Nat → Nat → Int) (w : World) (h : RdM .i64 w A n R L C M) :
    Calls Try.prog 38 #[.slice A n c] w (InvP n (invN (fun i k => elN M i k) n) (ivLen n L M) (ivCode n L M) w) := by
  obtain ⟨cd, hcd⟩ : ∃ cd, Hid (cd = ivCode n L M) := ⟨_, rfl⟩
  obtain ⟨ln, hln⟩ : ∃ ln, Hid (ln = ivLen n L M) := ⟨_, rfl⟩
  rw [← hcd.out, ← hln.out]
  have h0 := Lib.hid h
  have hnm := h.1
  unfold maxLen at hnm
  clear h
  cases hm : mayM n L M with
  | false =>
    have hc : cd = 4 := by rw [hcd.out]; unfold ivCode; simp [hm]
    have hl : ln = 0 := by rw [hln.out]; unfold ivLen; rw [← hcd.out]; simp [hc]
    subst hc hl
    go_enter Try.func38, Try.ntmps38
    go_wp2_with fail
    refine (MatMay_any _ _ _ _ _ _ _ _ h0.out).mono ?_
    rw [hm]
    rintro e w1 ⟨rfl, rfl⟩
    go_wp2
    go_ret2
    exact ⟨_, rfl, ⟨none, 0, fun _ => none, fun _ => 0, rfl, nil_rdM _ _ _ _ _⟩, New.refl _⟩
  | true =>
    obtain ⟨hn1, hn8, hrow⟩ := mayM_out hm
    obtain ⟨b, off, rfl, hb, hcs⟩ := h0.out.2.1 (by omega)
    have z0 := hcs 0 (by omega)
    simp at z0
    have hm0 := Lib.hid hm
    clear hcs hrow hm
    by_cases hsz : L 0 = n
    · have hsz0 := Lib.hid hsz
      rw [hsz] at z0
      have hsw := Lib.hid (fun w1 (hn : New w w1) => swept_any (some ⟨b, off, none⟩) n c n R L C M w1 (h0.out.new hn) hm0.out hsz)
      clear hsz
      by_cases hr : (stR (fun i k => elN M i k) n n).2 = n
      · have hc : cd = 0 := by rw [hcd.out]; unfold ivCode; rw [if_pos hm0.out, if_pos hsz0.out, if_pos hr]
        have hl : ln = n := by rw [hln.out]; unfold ivLen; rw [← hcd.out, hc]; rfl
        subst hc
        rw [hl]
        rw [hr] at hsw
        have hsol := Lib.hid (fun (V : Option Addr) (kk : Nat) (w1 : World) (hn : New w w1) (hV : RdI .i64 w1 V n (fun i => (unN kk i : Nat))) (hk : kk < n) => solved_any (some ⟨b, off, none⟩) V n c n kk R L C M w1 (h0.out.new hn) hm0.out hsz0.out hr hV hk)
        obtain ⟨X, hX⟩ : ∃ X : Nat → Nat → Nat, X = invN (fun i k => elN M i k) n := ⟨_, rfl⟩
        have hsol2 : Hid (∀ (V : Option Addr) (kk : Nat) (w1 : World), New w w1 → RdI .i64 w1 V n (fun i => (unN kk i : Nat)) → kk < n → Calls Try.prog 55 #[.slice (some ⟨b, off, none⟩) n c, .slice V n n] w1 (SolP n (fun i => X i kk) w1)) := by
          rw [hX]; exact hsol.out
        rw [← hX]
        have hnn : ¬ (n : Int) < (n : Int) := by omega
        have hn1i : (1 : Int) ≤ (n : Int) := by omega
        clear hl hr hX hsol hcd hln
        have hmk := run_make_row' (P := Try.prog) 30 3 (.int .i64 0) 8 Try.underlying30 infoInt rfl .i64 .i64 n (by omega) (by omega)
        have hmk2 := run_make_row' (P := Try.prog) 28 30 (.slice none 0 0) 24 Try.underlying28 info30 rfl .i64 .i64 n (by omega) (by omega)
        go_enter Try.func38, Try.ntmps38
        go_wp2_with fail
        refine (MatMay_any _ _ _ _ _ _ _ _ h0.out).mono ?_
        rw [hm0.out]
        rintro e w1 ⟨rfl, rfl⟩
        go_wp2_with fail
        refine (hsw.out _ (New.refl _)).mono ?_
        rintro e w2 ⟨rfl, hn2⟩
        have hn20 := Lib.hid hn2
        clear hn2 hsw h0
        go_wp2_with fail
        go_loopw [30] (fun x0 wr => ∃ (i : Nat) (G : Nat → Nat), x0 = .int .i64 i ∧ i ≤ n ∧ Hid (keepT w2 wr 30 3 n n i i G (fun _ _ => .int .i64 0)) ∧ Hid (∀ j, j < i → w2.heap.size ≤ G j) ∧ Hid (∀ a b, a < i → b < i → G a = G b → a = b)) (fun x0 _ => n - (intOf x0).toNat)
        case atStart =>
          refine ⟨0, fun _ => 0, rfl, by omega, ⟨(New.refl w2).alloc _, ?_, fun i hi => absurd hi (Nat.not_lt_zero i)⟩, fun j hj => absurd hj (Nat.not_lt_zero j), fun j _ hj => absurd hj (Nat.not_lt_zero j)⟩
          exact (World.rowIs_made w2 (.slice none 0 0) n 30).congr fun j hj => by simp [topF]
        case round =>
          obtain ⟨i, G, rfl, hi, hkeep, hGs, hGi⟩ := hrel
          by_cases hlt : i < n
          · have t2 := hkeep.out.2.1.cell hlt
            simp [topF] at t2
            have t3 := hkeep.out.2.1.frozen i
            have t4 := hkeep.out.2.1.lt
            have hii : (i : Int) < (n : Int) := by omega
            have a0 : (0 : Int) ≤ (i : Int) := by omega
            have hGlt : Hid (∀ j, j < i → G j < wr.heap.size) := fun j hj => (hkeep.out.2.2 j hj).lt
            have hk1 : Hid (keepT w2 ((wr.setCell ⟨w2.heap.size, i, none⟩ (.slice (some ⟨wr.heap.size, 0, none⟩) n n)).alloc (.cells (madeCells #[.int .i64 0] n) 3)) 30 3 n n (i + 1) (i + 1) (fun j => if j = i then wr.heap.size else G j) (fun _ _ => .int .i64 0)) := by
              refine ⟨(hkeep.out.1.set (Nat.le_refl _) _).alloc _, ?_, fun j hj => ?_⟩
              · have := hkeep.out.2.1.set i (.slice (some ⟨wr.heap.size, 0, none⟩) n n)
                rw [topF_set] at this
                exact this.alloc _
              · show World.rowIs _ (if j = i then wr.heap.size else G j) 3 n (fun _ => .int .i64 0)
                by_cases e : j = i
                · rw [if_pos e]
                  have := World.rowIs_made (wr.setCell ⟨w2.heap.size, i, none⟩ (.slice (some ⟨wr.heap.size, 0, none⟩) n n)) (.int .i64 0) n 3
                  rw [nblk_setCell] at this
                  exact this
                · rw [if_neg e]
                  have h1 := hkeep.out.2.2 j (by omega)
                  exact (h1.setOther (rowIs_ne h1 hkeep.out.2.1 (by decide)) _).alloc _
            have hGs2 : Hid (∀ j, j < i + 1 → w2.heap.size ≤ (if j = i then wr.heap.size else G j)) := fun j hj => by
              by_cases e : j = i
              · rw [if_pos e]; exact Nat.le_of_lt t4
              · rw [if_neg e]; exact hGs.out j (by omega)
            have hGi2 : Hid (∀ a b, a < i + 1 → b < i + 1 → (if a = i then wr.heap.size else G a) = (if b = i then wr.heap.size else G b) → a = b) := fun a b ha hb he => by
              by_cases e1 : a = i <;> by_cases e2 : b = i
              · omega
              · rw [if_pos e1, if_neg e2] at he
                have := hGlt.out b (by omega)
                omega
              · rw [if_neg e1, if_pos e2] at he
                have := hGlt.out a (by omega)
                omega
              · rw [if_neg e1, if_neg e2] at he
                exact hGi.out a b (by omega) (by omega) he
            go_wp2
            go_roundw
            case rel => exact ⟨i + 1, _, by go_num, by omega, hk1.out, hGs2.out, hGi2.out⟩
            case measure => simp [intOf]; omega
          · have hin : i = n := by omega
            have hst0 : Hid (SSt w2 w2.heap.size wr.heap.size w2.heap.size n n G (fun _ => n) (fun _ _ => 0) wr) := by
              rw [hin] at hkeep hGs hGi
              exact sst_of hkeep.out (by unfold maxLen; omega) hGs.out hGi.out
            have hii : ¬ (i : Int) < (n : Int) := by omega
            obtain ⟨H, hH⟩ : ∃ H, Hid (H = wr.heap.size) := ⟨_, rfl⟩
            obtain ⟨o, ho⟩ : ∃ o, o = w2.heap.size := ⟨_, rfl⟩
            rw [← hH.out] at hst0
            have hst1 : Hid (SSt w2 w2.heap.size H o n n G (fun _ => n) (fun _ _ => 0) wr) := by rw [ho]; exact hst0.out
            rw [← ho]
            clear hkeep hGs hGi hin hlt hst0 ho
            go_wp2_with fail
            go_loopw [7] (fun x0 wr => ∃ k : Nat, x0 = .int .i64 k ∧ k ≤ n ∧ Hid (SSt w2 w2.heap.size H o n n G (fun _ => n) (fun r q => if q < k then X r q else 0) wr)) (fun x0 _ => n - (intOf x0).toNat)
            case atStart => exact ⟨0, rfl, Nat.zero_le _, hst1.out.congr fun r q _ _ => by rw [if_neg (by omega)]⟩
            case round =>
              clear hst1
              obtain ⟨k, rfl, hk, hs⟩ := hrel
              by_cases hlt : k < n
              · have hki : (k : Int) < (n : Int) := by omega
                have a0 : (0 : Int) ≤ (k : Int) := by omega
                have hr1 := World.rowIs_made wr (.int .i64 0) n 3
                have cz := hr1.cell hlt
                have fz := hr1.frozen k
                have hs1 := Lib.hid (hs.out.new (((New.refl wr).alloc (.cells (madeCells #[.int .i64 0] n) 3)).set (p := ⟨wr.heap.size, k, none⟩) (Nat.le_refl _) (.int .i64 1)))
                have hr2 := Lib.hid (hr1.set k (.int .i64 1))
                go_wp2_with fail
                have hrd : Hid (RdI .i64 ((wr.alloc (.cells (madeCells #[.int .i64 0] n) 3)).setCell ⟨wr.heap.size, k, none⟩ (.int .i64 1)) (some ⟨wr.heap.size, 0, none⟩) n (fun i => (unN k i : Nat))) := ⟨by unfold maxLen; omega, fun h0 => ⟨wr.heap.size, 0, rfl, hr2.out.lt, fun j hj => by
                  rw [Nat.zero_add, hr2.out.cell hj]
                  show some (if j = k then Value.int .i64 1 else Value.int .i64 0) = some (.int .i64 ((unN k j : Nat) : Int))
                  unfold unN
                  by_cases e : j = k
                  · rw [if_pos e, if_pos e]; rfl
                  · rw [if_neg e, if_neg e]; rfl⟩⟩
                rw [World.setCell_alloc_at (w := wr) _ _ _ _ _ rfl] at hs1 hrd
                refine (hsol2.out _ k _ (hn20.out.next hs1.out.bl) hrd.out hlt).mono ?_
                rintro e W4 ⟨g, c3, rfl, hg0, hrow, hn4⟩
                have hs4 := Lib.hid (hs1.out.new hn4)
                have hgH : H ≤ g := Nat.le_trans hs1.out.hs hg0
                have hrow4 := Lib.hid hrow
                clear hrd hr1 cz fz hs1 hr2 hs hrow hg0 hn4
                go_wp2_with fail
                go_loopw [53] (fun x0 wr => ∃ i : Nat, x0 = .int .i64 i ∧ i ≤ n ∧ Hid (SSt w2 w2.heap.size H o n n G (fun _ => n) (fun r q => if q < k ∨ (q = k ∧ r < i) then X r q else 0) wr) ∧ Hid (wr.rowIs g 3 n (fun i => .int .i64 (X i k : Nat)))) (fun x0 _ => n - (intOf x0).toNat)
                case atStart => exact ⟨0, rfl, Nat.zero_le _, hs4.out.congr fun r q _ _ => by
                  by_cases h1 : q < k
                  · rw [if_pos h1, if_pos (.inl h1)]
                  · rw [if_neg h1, if_neg (by omega)], hrow4.out⟩
                case round =>
                  clear hs4 hrow4
                  obtain ⟨i, rfl, hi, hs, hrow⟩ := hrel
                  by_cases hlti : i < n
                  · have hii : (i : Int) < (n : Int) := by omega
                    have a1 : (0 : Int) ≤ (i : Int) := by omega
                    have cx := hrow.out.cell hlti
                    have hio := hs.out.mx.cellO hlti
                    have hf := hs.out.mx.frozen hlti k
                    have hold := hs.out.mx.cell hlti hlt
                    rw [if_neg (by omega)] at hold
                    obtain ⟨x, hx⟩ : ∃ x, Hid (x = X i k) := ⟨_, rfl⟩
                    rw [← hx.out] at cx
                    have hs2 := Lib.hid ((hs.out.set hlti (k := k) x).congr (Y := fun r q => if q < k ∨ (q = k ∧ r < i + 1) then X r q else 0) fun r q _ _ => by
                      by_cases h1 : r = i ∧ q = k
                      · rw [if_pos h1, if_pos (by omega), hx.out, h1.1, h1.2]
                      · rw [if_neg h1]
                        by_cases h2 : q < k ∨ (q = k ∧ r < i)
                        · rw [if_pos h2, if_pos (by omega)]
                        · rw [if_neg h2, if_neg (by omega)])
                    have hrow2 := Lib.hid (hrow.out.setOther (a := ⟨G i, k, none⟩) (by show g ≠ G i; have := (hs.out.mx.gb i hlti).2; omega) (.int .i64 ((x : Nat) : Int)))
                    clear hs hrow
                    go_wp2
                    go_roundw
                    case rel => exact ⟨i + 1, by go_num, by omega, hs2.out, hrow2.out⟩
                    case measure => simp [intOf]; omega
                  · have hs2 : Hid (SSt w2 w2.heap.size H o n n G (fun _ => n) (fun r q => if q < k + 1 then X r q else 0) wr) := hs.out.congr fun r q hr1 _ => by
                      by_cases h1 : q < k ∨ (q = k ∧ r < i)
                      · rw [if_pos h1, if_pos (by omega)]
                      · rw [if_neg h1, if_neg (by omega)]
                    have hii : ¬ (i : Int) < (n : Int) := by omega
                    clear hs hrow
                    go_wp2
                    go_roundw
                    case rel => exact ⟨k + 1, by go_num, by omega, hs2.out⟩
                    case measure => simp [intOf]; omega
              · have hki : ¬ (k : Int) < (n : Int) := by omega
                have hsf : Hid (SSt w2 w2.heap.size H o n n G (fun _ => n) X wr) := hs.out.congr fun r q _ hq => by rw [if_pos (by omega)]
                have hR := Lib.hid (hsf.out.mx.rd (fun _ _ => ⟨Nat.le_refl _, by unfold maxLen; omega⟩) hn8 (by omega))
                have hnf : Hid (New w wr) := hn20.out.next hsf.out.bl
                clear hs hlt
                go_wp2
                go_ret2
                exact ⟨_, rfl, ⟨_, _, _, _, rfl, hR.out⟩, hnf.out⟩
      · have hc : cd = 10 := by rw [hcd.out]; unfold ivCode; rw [if_pos hm0.out, if_pos hsz0.out, if_neg hr]
        have hl : ln = 0 := by rw [hln.out]; unfold ivLen; rw [← hcd.out]; simp [hc]
        subst hc hl
        have hlt : (stR (fun i k => elN M i k) n n).2 < n := by have := (stR_bytes (elN_bytes hm0.out hsz0.out) n).2; omega
        obtain ⟨rk, hrk⟩ : ∃ rk, rk = (stR (fun i k => elN M i k) n n).2 := ⟨_, rfl⟩
        rw [← hrk] at hsw hlt
        have hlti : (rk : Int) < (n : Int) := by omega
        clear hr hrk
        go_enter Try.func38, Try.ntmps38
        go_wp2_with fail
        refine (MatMay_any _ _ _ _ _ _ _ _ h0.out).mono ?_
        rw [hm0.out]
        rintro e w1 ⟨rfl, rfl⟩
        go_wp2_with fail
        refine (hsw.out _ (New.refl _)).mono ?_
        rintro e w2 ⟨rfl, hn2⟩
        go_wp2
        go_ret2
        exact ⟨_, rfl, ⟨none, 0, fun _ => none, fun _ => 0, rfl, nil_rdM _ _ _ _ _⟩, hn2⟩
    · have hc : cd = 1 := by rw [hcd.out]; unfold ivCode; rw [if_pos hm0.out, if_neg hsz]
      have hl : ln = 0 := by rw [hln.out]; unfold ivLen; rw [← hcd.out]; simp [hc]
      subst hc hl
      have hne : ((L 0 : Int) != (n : Int)) = true := by simp; omega
      go_enter Try.func38, Try.ntmps38
      go_wp2_with fail
      refine (MatMay_any _ _ _ _ _ _ _ _ h0.out).mono ?_
      rw [hm0.out]
      rintro e w1 ⟨rfl, rfl⟩
      go_wp2
      go_ret2
      exact ⟨_, rfl, ⟨none, 0, fun _ => none, fun _ => 0, rfl, nil_rdM _ _ _ _ _⟩, New.refl _⟩
end Go.Proofs.Ytidhghcgbomdiaa.mat
