/-
  Contract of the reference: the product of matrices.
-/
import Derived.Test.YtidhghcgbomdiaaMatMul
namespace Go.Proofs.Ytidhghcgbomdiaa.mat
open Go.ChangeShapes Go.WideShapes Go.ChangeAt Go.RowKit Go.Proofs.Ytidhghcgbomdiaa.kit Go.Proofs.Ytidhghcgbomdiaa.gf Go.Deep
set_option linter.unusedVariables false

theorem rowIs_ne {w : World} {a b : Nat} {t t' : TypeId} {n m : Nat} {f g : Nat → Value} (h : w.rowIs a t n f) (k : w.rowIs b t' m g) (hne : t ≠ t') : a ≠ b := by
  intro he
  subst he
  obtain ⟨c, hc, _⟩ := h
  obtain ⟨d, hd, _⟩ := k
  rw [hc] at hd
  injection hd with hd
  injection hd with _ hd _
  exact hne hd
/-- the rows that are laid: of the first i -/
def topF (G : Nat → Nat) (m i : Nat) : Nat → Value := fun j => if j < i then .slice (some ⟨G j, 0, none⟩) m m else .slice none 0 0
theorem topF_set (G : Nat → Nat) (m i g : Nat) : (fun j => if j = i then Value.slice (some ⟨g, 0, none⟩) m m else topF G m i j) = topF (fun j => if j = i then g else G j) m (i + 1) := by
  funext j
  unfold topF
  by_cases h : j = i
  · subst h; simp
  · by_cases h2 : j < i
    · have : j < i + 1 := by omega
      simp [h, h2, this]
    · have : ¬ j < i + 1 := by omega
      simp [h, h2, this]
/-- what the rounds of a row leave as it is -/
def keepT (w wr : World) (t1 t2 : TypeId) (n m i k : Nat) (G : Nat → Nat) (f : Nat → Nat → Value) : Prop :=
  New w wr ∧ wr.rowIs w.heap.size t1 n (topF G m i) ∧ ∀ j, j < k → wr.rowIs (G j) t2 m (f j)
theorem keepT.new {w wr wr' : World} {t1 t2 : TypeId} {n m i k : Nat} {G : Nat → Nat} {f : Nat → Nat → Value} (h : keepT w wr t1 t2 n m i k G f) (hn : New wr wr') : keepT w wr' t1 t2 n m i k G f :=
  ⟨h.1.next hn, rowIs_new h.2.1 hn, fun j hj => rowIs_new (h.2.2 j hj) hn⟩
theorem keepT.set {w wr : World} {t1 t2 : TypeId} {n m i k : Nat} {G : Nat → Nat} {f : Nat → Nat → Value} (h : keepT w wr t1 t2 n m i k G f) {a : Addr} (ha : w.heap.size < a.block) (hG : ∀ j, j < k → G j ≠ a.block) (v : Value) : keepT w (wr.setCell a v) t1 t2 n m i k G f :=
  ⟨h.1.set (Nat.le_of_lt ha) _, h.2.1.setOther (Nat.ne_of_lt ha) _, fun j hj => (h.2.2 j hj).setOther (hG j hj) _⟩
/-- a row of sums while column by column is added -/
def colF (s : Nat → Nat → Nat) (k j : Nat) : Nat → Value := fun q => .int .i64 ((if q < j then s (k + 1) q else s k q : Nat) : Int)
theorem colF_at (s : Nat → Nat → Nat) (k j : Nat) : colF s k j j = .int .i64 (s k j : Nat) := by simp [colF]
theorem colF_set (s : Nat → Nat → Nat) (k j : Nat) : (fun q => if q = j then Value.int .i64 (s (k + 1) j : Nat) else colF s k j q) = colF s k (j + 1) := by
  funext q
  unfold colF
  by_cases h : q = j
  · subst h; simp
  · by_cases h2 : q < j
    · have : q < j + 1 := by omega
      simp [h, h2, this]
    · have : ¬ q < j + 1 := by omega
      simp [h, h2, this]
theorem MatMul_any (A : Option Addr) (n c : Nat) (R : Nat → Option Addr) (L C : Nat → Nat) (X : Nat → Nat → Int) (B : Option Addr) (nb cb : Nat) (R' : Nat → Option Addr) (L' C' : Nat → Nat) (Y : Nat → Nat → Int) (w : World)
    (hA : RdM .i64 w A n R L C X) (hB : RdM .i64 w B nb R' L' C' Y) :
    Calls Try.prog 33 #[.slice A n c, .slice B nb cb] w fun e w' => ∃ v, e = .returned (.tuple #[v, .int .i64 (mmCode n L X nb L' Y)]) ∧
      (∃ B d R1 C1, v = .slice B (mmLen n L X nb L' Y) d ∧ RdM .i64 w' B (mmLen n L X nb L' Y) R1 (fun _ => L' 0) C1 (fun i k => (mmVal X Y nb i k : Nat))) ∧ New w w' := by
  obtain ⟨cd, hcd⟩ : ∃ cd, Hid (cd = mmCode n L X nb L' Y) := ⟨_, (rfl : _ = _)⟩
  obtain ⟨ln, hln⟩ : ∃ ln, Hid (ln = mmLen n L X nb L' Y) := ⟨_, (rfl : _ = _)⟩
  rw [← hcd.out, ← hln.out]
  have hA0 := Lib.hid hA
  have hB0 := Lib.hid hB
  have hmB := hB.1
  unfold maxLen at hmB
  clear hA hB
  cases hm : mayM n L X with
  | false =>
    have hc : cd = 4 := by rw [hcd.out]; unfold mmCode; simp [hm]
    have hl : ln = 0 := by rw [hln.out]; unfold mmLen; rw [← hcd.out]; simp [hc]
    subst hc hl
    go_enter Try.func33, Try.ntmps33
    go_wp2_with fail
    refine (MatMay_any _ _ _ _ _ _ _ _ hA0.out).mono ?_
    rw [hm]
    rintro e w1 ⟨rfl, rfl⟩
    go_wp2
    go_ret2
    exact ⟨_, rfl, ⟨none, 0, fun _ => none, fun _ => 0, rfl, nil_rdM _ _ _ _ _⟩, New.refl _⟩
  | true =>
    cases ha : mayM nb L' Y with
    | false =>
      have hc : cd = 4 := by rw [hcd.out]; unfold mmCode; simp [ha]
      have hl : ln = 0 := by rw [hln.out]; unfold mmLen; rw [← hcd.out]; simp [hc]
      subst hc hl
      go_enter Try.func33, Try.ntmps33
      go_wp2_with fail
      refine (MatMay_any _ _ _ _ _ _ _ _ hA0.out).mono ?_
      rw [hm]
      rintro e w1 ⟨rfl, rfl⟩
      go_wp2_with fail
      refine (MatMay_any _ _ _ _ _ _ _ _ hB0.out).mono ?_
      rw [ha]
      rintro e w1 ⟨rfl, rfl⟩
      go_wp2
      go_ret2
      exact ⟨_, rfl, ⟨none, 0, fun _ => none, fun _ => 0, rfl, nil_rdM _ _ _ _ _⟩, New.refl _⟩
    | true =>
      obtain ⟨hn1, hn8, hrow⟩ := mayM_out hm
      obtain ⟨hb1, hb8, hrow'⟩ := mayM_out ha
      obtain ⟨b, off, rfl, hb, hcs⟩ := hA0.out.2.1 (by omega)
      obtain ⟨b', off', rfl, hb', hcs'⟩ := hB0.out.2.1 (by omega)
      have z0 := hcs 0 (by omega)
      have z1 := hcs' 0 (by omega)
      simp at z0 z1
      have hcs0 := Lib.hid hcs
      have hcs0' := Lib.hid hcs'
      have hrow0 := Lib.hid hrow
      have hrow0' := Lib.hid hrow'
      have hL8 : L 0 ≤ 8 := (hrow 0 (by omega)).2.2.1
      have hm8 : L' 0 ≤ 8 := (hrow' 0 (by omega)).2.2.1
      have hm0 := Lib.hid hm
      have ha0 := Lib.hid ha
      by_cases hsz : L 0 = nb
      · have hc : cd = 0 := by rw [hcd.out]; unfold mmCode; simp [hm, ha, hsz]
        have hl : n = ln := by rw [hln.out]; unfold mmLen; rw [← hcd.out]; simp [hc]
        subst hc hl
        have hsz1 := Lib.hid hsz
        rw [hsz] at z0
        clear hsz hcs hcs' hrow hrow' hm ha
        obtain ⟨m, hm1⟩ : ∃ m, Hid (m = L' 0) := ⟨_, (rfl : _ = _)⟩
        rw [← hm1.out] at z1 hm8
        have hmk := run_make_row' (P := Try.prog) 30 3 (.int .i64 0) 8 Try.underlying30 infoInt rfl .i64 .i64 m (by omega) (by omega)
        have hmk2 := run_make_row' (P := Try.prog) 28 30 (.slice none 0 0) 24 Try.underlying28 info30 rfl .i64 .i64 n (by omega) (by omega)
        go_enter Try.func33, Try.ntmps33
        go_wp2_with fail
        refine (MatMay_any _ _ _ _ _ _ _ _ hA0.out).mono ?_
        rw [hm0.out]
        rintro e w1 ⟨rfl, rfl⟩
        go_wp2_with fail
        refine (MatMay_any _ _ _ _ _ _ _ _ hB0.out).mono ?_
        rw [ha0.out]
        rintro e w1 ⟨rfl, rfl⟩
        go_wp2
        go_loopw [30] (fun c wr => ∃ (i : Nat) (G : Nat → Nat), c = .int .i64 i ∧ i ≤ n ∧ Hid (keepT w wr 30 3 n m i i G (fun i j => .int .i64 (mmVal X Y nb i j : Nat)))) (fun c _ => n - (intOf c).toNat)
        case atStart =>
          refine ⟨0, fun _ => 0, rfl, by omega, (New.refl w).alloc _, ?_, fun i hi => absurd hi (Nat.not_lt_zero i)⟩
          exact (World.rowIs_made w (.slice none 0 0) n 30).congr fun j hj => by simp [topF]
        case round =>
          obtain ⟨i, G, rfl, hi, hkeep⟩ := hrel
          obtain ⟨W0, hW0⟩ : ∃ W0, W0 = wr := ⟨_, rfl⟩
          subst hW0
          by_cases hlt : i < n
          · have z2 := (hkeep.out.1.cell hb').trans z1
            have t2 := hkeep.out.2.1.cell hlt
            simp [topF] at t2
            have t3 := hkeep.out.2.1.frozen i
            have t4 := hkeep.out.2.1.lt
            have hbW : b' < W0.heap.size := Nat.lt_of_lt_of_le hb' hkeep.out.1.size
            have hLk : Hid (L i = nb) := (hrow0.out i hlt).1.trans hsz1.out
            have hX : Hid (RdI .i64 w (R i) nb (X i)) := by have := (hA0.out.2.2 i hlt).1; rw [hLk.out] at this; exact this
            have hel : Hid (∀ j, j < nb → elP (X i j)) := by have := allE_out (hrow0.out i hlt).2.2.2; rw [hLk.out] at this; exact this
            have hel' : Hid (∀ p q, p < nb → q < m → elP (Y p q)) := fun p q hp hq => by
              have h2 := hrow0'.out p hp
              exact allE_out h2.2.2.2 q (by rw [h2.1, ← hm1.out]; exact hq)
            have hLp : Hid (∀ p, p < nb → L' p = m) := fun p hp => by rw [(hrow0'.out p hp).1, hm1.out]
            obtain ⟨s, hs⟩ : ∃ s : Nat → Nat → Nat, Hid (s = fun k j => dotN (elN X i) (fun q => elN Y q j) k) := ⟨_, (rfl : _ = _)⟩
            obtain ⟨G', hG'⟩ : ∃ G' : Nat → Nat, Hid (G' = fun j => if j = i then W0.heap.size else G j) := ⟨_, (rfl : _ = _)⟩
            have hGlt : Hid (∀ j, j < i → G' j < W0.heap.size) := fun j hj => by
              rw [hG'.out]; simp only [if_neg (Nat.ne_of_lt hj)]; exact (hkeep.out.2.2 j hj).lt
            have hk1 : Hid (keepT w ((W0.setCell ⟨w.heap.size, i, none⟩ (.slice (some ⟨W0.heap.size, 0, none⟩) m m)).alloc (.cells (madeCells #[.int .i64 0] m) 3)) 30 3 n m (i + 1) i G' (fun i j => .int .i64 (mmVal X Y nb i j : Nat))) := by
              refine ⟨(hkeep.out.1.set (Nat.le_refl _) _).alloc _, ?_, fun j hj => ?_⟩
              · have := hkeep.out.2.1.set i (.slice (some ⟨W0.heap.size, 0, none⟩) m m)
                rw [topF_set] at this
                rw [hG'.out]; exact this.alloc _
              · have h1 := hkeep.out.2.2 j hj
                rw [hG'.out]; simp only [if_neg (Nat.ne_of_lt hj)]
                exact (h1.setOther (rowIs_ne h1 hkeep.out.2.1 (by decide)) _).alloc _
            have hk2 : Hid (((W0.setCell ⟨w.heap.size, i, none⟩ (.slice (some ⟨W0.heap.size, 0, none⟩) m m)).alloc (.cells (madeCells #[.int .i64 0] m) 3)).rowIs W0.heap.size 3 m (colF s 0 0)) := by
              have := (World.rowIs_made (W0.setCell ⟨w.heap.size, i, none⟩ (.slice (some ⟨W0.heap.size, 0, none⟩) m m)) (.int .i64 0) m 3).congr (g := colF s 0 0) fun j hj => by rw [hs.out]; simp [colF, dotN]
              rw [nblk_setCell] at this
              exact this
            go_wp2
            go_loopw [43] (fun c wr => ∃ k : Nat, c = .int .i64 k ∧ k ≤ nb ∧ Hid (keepT w wr 30 3 n m (i + 1) i G' (fun i j => .int .i64 (mmVal X Y nb i j : Nat))) ∧ Hid (wr.rowIs W0.heap.size 3 m (colF s k 0))) (fun c _ => nb - (intOf c).toNat)
            case atStart => exact ⟨0, rfl, by omega, hk1.out, hk2.out⟩
            case round =>
              obtain ⟨k, rfl, hk, hkp, hrw⟩ := hrel
              by_cases hkn : k < nb
              · have y0 := (hkp.out.1.cell hb').trans (hcs0'.out k hkn)
                rw [hLp.out k hkn] at y0
                go_wp2
                go_loopw [51] (fun c wr => ∃ j : Nat, c = .int .i64 j ∧ j ≤ m ∧ Hid (keepT w wr 30 3 n m (i + 1) i G' (fun i j => .int .i64 (mmVal X Y nb i j : Nat))) ∧ Hid (wr.rowIs W0.heap.size 3 m (colF s k j))) (fun c _ => m - (intOf c).toNat)
                case atStart => exact ⟨0, rfl, by omega, hkp.out, hrw.out⟩
                case round =>
                  obtain ⟨j, rfl, hj, hkp, hrw⟩ := hrel
                  by_cases hjm : j < m
                  · obtain ⟨b1, off1, hR, hb1', hcs1⟩ := hX.out.2 (by omega)
                    obtain ⟨b2, off2, hR2, hb2, hcs2⟩ := (hB0.out.2.2 k hkn).1.2 (by rw [hLp.out k hkn]; omega)
                    have hR1 := Lib.hid hR
                    have hR3 := Lib.hid hR2
                    clear hR hR2
                    have ex := hel.out k hkn
                    have ey := hel'.out k j hkn hjm
                    obtain ⟨x, hx⟩ : ∃ x, Hid (x = elN X i k) := ⟨_, (rfl : _ = _)⟩
                    obtain ⟨y, hy⟩ : ∃ y, Hid (y = elN Y k j) := ⟨_, (rfl : _ = _)⟩
                    have hxl : x < 256 := by rw [hx.out]; unfold elP at ex; unfold elN; omega
                    have hyl : y < 256 := by rw [hy.out]; unfold elP at ey; unfold elN; omega
                    have hnw := hkp.out.1
                    have cX : wr.cell? ⟨b1, off1 + k, none⟩ = some (.int .i64 (x : Int)) := by
                      rw [hx.out, show (elN X i k : Int) = X i k by unfold elP at ex; unfold elN; omega]; exact (hnw.cell hb1').trans (hcs1 k hkn)
                    have cY : wr.cell? ⟨b2, off2 + j, none⟩ = some (.int .i64 (y : Int)) := by
                      rw [hy.out, show (elN Y k j : Int) = Y k j by unfold elP at ey; unfold elN; omega]; exact (hnw.cell hb2).trans (hcs2 j (by rw [hLp.out k hkn]; exact hjm))
                    have cA : wr.cell? ⟨b, off + i, none⟩ = some (.slice (some ⟨b1, off1, none⟩) nb (C i)) := by
                      have := (hnw.cell hb).trans (hcs0.out i hlt); rw [hLk.out, hR1.out] at this; exact this
                    have cB : wr.cell? ⟨b', off' + k, none⟩ = some (.slice (some ⟨b2, off2, none⟩) m (C' k)) := by
                      have := (hnw.cell hb').trans (hcs0'.out k hkn); rw [hLp.out k hkn, hR3.out] at this; exact this
                    have cT : wr.cell? ⟨w.heap.size, i, none⟩ = some (.slice (some ⟨W0.heap.size, 0, none⟩) m m) := by
                      have := hkp.out.2.1.cell hlt
                      rw [this, hG'.out]
                      simp [topF]
                    obtain ⟨v, hv⟩ : ∃ v, Hid (v = s k j) := ⟨_, (rfl : _ = _)⟩
                    have hvl : v < 256 := by
                      rw [hv.out, hs.out]; exact dotN_lt _ _ _ fun p hp => by have := hel.out p (by omega); unfold elP at this; unfold elN; omega
                    have cO := hrw.out.cell hjm
                    rw [colF_at, ← hv.out] at cO
                    obtain ⟨t, ht⟩ : ∃ t, Hid (t = mul x y) := ⟨_, (rfl : _ = _)⟩
                    have htl : t < 256 := by rw [ht.out]; exact mul_lt _ _ hxl
                    have hxor := i64_xor_nat v t (by omega) (by omega)
                    have hmul2 : Hid (∀ w, Calls Try.prog 42 #[.int .i64 x, .int .i64 y] w fun e w' => e = .returned (.int .i64 t) ∧ New w w') := fun w => (mulOf_any x y hxl hyl w).mono fun e w' h => ⟨by rw [ht.out]; exact h.1, by rw [← h.2]; exact New.refl w⟩
                    have k0 := NewW.keep cX
                    have k1 := NewW.keep cY
                    have k2 := NewW.keep cA
                    have k3 := NewW.keep cB
                    have k4 := NewW.keep cT
                    have k5 := NewW.keep cO
                    have a1 : (i : Int) < (n : Int) := by omega
                    have a2 : (k : Int) < (nb : Int) := by omega
                    have a3 : (j : Int) < (m : Int) := by omega
                    have a4 : (0 : Int) ≤ (i : Int) := by omega
                    have a5 : (0 : Int) ≤ (k : Int) := by omega
                    have a6 : (0 : Int) ≤ (j : Int) := by omega
                    clear hnw hcs1 hcs2 ex ey
                    go_wp2
                    (refine wp_region_new_tail 24 (by kernel_rfl) (by kernel_rfl) ?_; simp only [List.take_succ_cons, List.take_zero, List.drop_succ_cons, List.drop_zero]; (repeat (first | go_big_quiet_step (first | (go_at_call 42; exact NewW.call _ (hmul2.out _))) | quiet_step (first | (go_at_call 42; exact NewW.call _ (hmul2.out _))))); refine wpQuiet_nil ?_; rintro W2 ⟨⟨_, hn_W2⟩, rfl⟩)
                    have hkp2 := Lib.hid (hkp.out.new hn_W2)
                    have hrw2 := rowIs_new hrw.out hn_W2
                    have hz := hrw2.frozen j
                    have hz2 := hrw2.cell hjm
                    rw [colF_at, ← hv.out] at hz2
                    have hrw3 := Lib.hid hrw2
                    clear hrw2
                    go_wp2
                    go_roundw
                    case rel =>
                      refine ⟨j + 1, by go_num, by omega, hkp2.out.set t4 (fun p hp => Nat.ne_of_lt (hGlt.out p hp)) _, ?_⟩
                      have := hrw3.out.set j (.int .i64 ((s (k + 1) j : Nat) : Int))
                      rw [colF_set] at this
                      rw [show s (k + 1) j = v ^^^ t by rw [hv.out, ht.out, hx.out, hy.out, hs.out]; rfl] at this
                      exact this
                    case measure => simp [intOf]; omega
                  · have hje : j = m := by omega
                    subst hje
                    have hrw2 : Hid (wr.rowIs W0.heap.size 3 j (colF s (k + 1) 0)) := hrw.out.congr fun q hq => by simp [colF, hq]
                    go_wp2
                    go_roundw
                    case rel => exact ⟨k + 1, by go_num, by omega, hkp.out, hrw2.out⟩
                    case measure => simp [intOf]; omega
              · have hke : k = nb := by omega
                subst hke
                have hkp2 : Hid (keepT w wr 30 3 n m (i + 1) (i + 1) G' (fun i j => .int .i64 (mmVal X Y k i j : Nat))) := by
                  refine ⟨hkp.out.1, hkp.out.2.1, fun j hj => ?_⟩
                  by_cases hji : j = i
                  · subst hji
                    have h2 : G' j = W0.heap.size := by rw [hG'.out]; simp
                    rw [h2]
                    refine hrw.out.congr fun q hq => ?_
                    rw [hs.out]; simp [colF, mmVal]
                  · exact hkp.out.2.2 j (by omega)
                go_wp2
                go_roundw
                case rel => exact ⟨i + 1, G', by go_num, by omega, hkp2.out⟩
                case measure => simp [intOf]; omega
          · have hin : i = n := by omega
            subst hin
            have hR : Hid (RdM .i64 W0 (some ⟨w.heap.size, 0, none⟩) i (fun j => some ⟨G j, 0, none⟩) (fun _ => m) (fun _ => m) (fun i k => (mmVal X Y nb i k : Nat))) := by
              refine ⟨by unfold maxLen; omega, fun h0 => ⟨w.heap.size, 0, rfl, hkeep.out.2.1.lt, fun j hj => ?_⟩, fun j hj => ⟨⟨(by unfold maxLen; omega : m ≤ maxLen), fun h0 => ⟨G j, 0, rfl, (hkeep.out.2.2 j hj).lt, fun q hq => ?_⟩⟩, Nat.le_refl _, (by unfold maxLen; omega : m ≤ maxLen)⟩⟩
              · have := hkeep.out.2.1.cell hj
                simpa [topF, hj] using this
              · simpa using (hkeep.out.2.2 j hj).cell (i := q) hq
            go_wp2
            go_ret2
            have hR2 : ∃ R1 C1, RdM .i64 W0 (some ⟨w.heap.size, 0, none⟩) i R1 (fun _ => L' 0) C1 (fun i k => (mmVal X Y nb i k : Nat)) := ⟨_, _, by rw [← hm1.out]; exact hR.out⟩
            refine ⟨_, rfl, ?_, hkeep.out.1⟩
            simpa using hR2
      · have hc : cd = 1 := by rw [hcd.out]; unfold mmCode; simp [hm, ha, hsz]
        have hl : ln = 0 := by rw [hln.out]; unfold mmLen; rw [← hcd.out]; simp [hc]
        subst hc hl
        have hne : ((L 0 : Int) != (nb : Int)) = true := by simp; omega
        clear hcs hcs' hrow hrow' hm ha
        go_enter Try.func33, Try.ntmps33
        go_wp2_with fail
        refine (MatMay_any _ _ _ _ _ _ _ _ hA0.out).mono ?_
        rw [hm0.out]
        rintro e w1 ⟨rfl, rfl⟩
        go_wp2_with fail
        refine (MatMay_any _ _ _ _ _ _ _ _ hB0.out).mono ?_
        rw [ha0.out]
        rintro e w1 ⟨rfl, rfl⟩
        go_wp2
        go_ret2
        exact ⟨_, rfl, ⟨none, 0, fun _ => none, fun _ => 0, rfl, nil_rdM _ _ _ _ _⟩, New.refl _⟩
end Go.Proofs.Ytidhghcgbomdiaa.mat
