/-
  Contracts: the product of matrices.
-/
import Derived.Test.YtidhghcgbomdiaaMatRefApply
namespace Go.Proofs.Ytidhghcgbomdiaa.mat
open Go.ChangeShapes Go.WideShapes Go.ChangeAt Go.RowKit Go.Proofs.Ytidhghcgbomdiaa.kit Go.Proofs.Ytidhghcgbomdiaa.gf Go.Deep
set_option linter.unusedVariables false

theorem info30 : (Try.prog.info? 30).map (fun i => (i.zero, i.size, i.bytes)) = some (some (.slice none 0 0), 1, 24) := by kernel_rfl
theorem enterMul1 : ∀ (args : Array Value) (w : World), (callFunc 50 args).run Try.prog w = .ok (.enter 50 args) w := enter_of (fn := Try.f50) (by rfl) (by kernel_rfl) (by rfl)
theorem nil_rdM (w : World) (R : Nat → Option Addr) (L C : Nat → Nat) (M : Nat → Nat → Int) : RdM .i64 w none 0 R L C M := ⟨Nat.zero_le _, fun h => absurd h (Nat.lt_irrefl 0), fun i h => absurd h (Nat.not_lt_zero i)⟩
theorem sameMatrix_eq (A B : Option Addr) (n c d : Nat) (R R' : Nat → Option Addr) (L L' C C' : Nat → Nat) (Y Z : Nat → Nat → Int) (w : World) (hY : RdM .i64 w A n R L C Y) (hZ : RdM .i64 w B n R' L' C' Z)
    (he : ∀ i, i < n → L i = L' i ∧ ∀ j, j < L i → Y i j = Z i j) :
    Calls Try.prog 34 #[.slice A n c, .slice B n d] w fun e w' => e = .returned (.bool true) ∧ New w w' := by
  have hm := hY.1
  unfold maxLen at hm
  have he1 := Lib.hid he
  have hY1 := Lib.hid hY
  have hZ1 := Lib.hid hZ
  clear he hY hZ
  go_enter Try.func34, Try.ntmps34
  go_wp2
  go_loopw [5] (fun k wr => ∃ i : Nat, k = .int .i64 i ∧ i ≤ n ∧ New w wr) (fun k _ => n - (intOf k).toNat)
  case atStart => exact ⟨0, rfl, by omega, New.refl w⟩
  case round =>
    obtain ⟨i, rfl, hi, hnw⟩ := hrel
    by_cases hlt : i < n
    · obtain ⟨b, off, rfl, hb, hcs⟩ := hY1.out.2.1 (by omega)
      obtain ⟨b', off', rfl, hb', hcs'⟩ := hZ1.out.2.1 (by omega)
      have c0 := (hnw.cell hb).trans (hcs i hlt)
      have c1 := (hnw.cell hb').trans (hcs' i hlt)
      have r0 := Lib.hid ((hY1.out.2.2 i hlt).1.new hnw)
      have r1 := Lib.hid ((hZ1.out.2.2 i hlt).1.new hnw)
      obtain ⟨hl, hv⟩ := he1.out i hlt
      have hv1 := Lib.hid hv
      rw [← hl] at c1 r1
      have hnw1 := Lib.hid hnw
      clear hcs hcs' hl hv hnw
      have k0 := NewW.keep c0
      have k1 := NewW.keep c1
      have hs : Hid (∀ w', New wr w' → Calls Try.prog 31 #[.slice (R i) (L i) (C i), .slice (R' i) (L i) (C' i)] w' fun e w'' => e = .returned (.bool true) ∧ New w' w'') := fun w' hn => sameInts_eq _ _ _ _ _ _ _ _ (r0.out.new hn) (r1.out.new hn) hv1.out
      have a1 : (i : Int) < (n : Int) := by omega
      have a3 : (0 : Int) ≤ (i : Int) := by omega
      go_wp2
      (refine wp_region_quiet_new (by kernel_rfl) (by kernel_rfl) ?_; (repeat (first | go_big_quiet_step (first | (go_at_call 31; exact NewW.call _ (hs.out _ (NewW.is _)))) | quiet_step (first | (go_at_call 31; exact NewW.call _ (hs.out _ (NewW.is _)))))); refine wpQuiet_nil ?_; rintro W2 ⟨⟨_, hn_W2⟩, rfl⟩)
      go_wp2
      go_roundw
      case rel => exact ⟨i + 1, by go_num, by omega, hnw1.out.next hn_W2⟩
      case measure => simp [intOf]; omega
    · have hin : i = n := by omega
      subst hin
      go_wp2
      go_ret
      exact ⟨rfl, hnw⟩
theorem mul1_any (i k na ca nb cb : Nat) (Ra B : Option Addr) (X : Nat → Int) (R : Nat → Option Addr) (L C : Nat → Nat) (M : Nat → Nat → Int) (b1 b2 b3 : Nat) (w : World) (h1 : w.cell? ⟨b1, 0, none⟩ = some (.slice Ra na ca)) (h2 : w.cell? ⟨b2, 0, none⟩ = some (.slice B nb cb))
    (h3 : w.cell? ⟨b3, 0, none⟩ = some (.int .i64 k)) (hX : RdI .i64 w Ra na X) (hM : RdM .i64 w B nb R L C M) (i1 : i < na) (i2 : i < nb) (i3 : k < L i) (i4 : L i ≤ 8) :
    Calls Try.prog 50 #[.int .i64 i, .pointer (some ⟨b1, 0, none⟩), .pointer (some ⟨b2, 0, none⟩), .pointer (some ⟨b3, 0, none⟩)] w fun e w' => e = .returned (.tuple #[.int .i64 (X i), .int .i64 (M i k)]) ∧ New w w' := by
  have hm1 := hX.1
  have hm2 := hM.1
  unfold maxLen at hm1 hm2
  obtain ⟨b, off, rfl, hb, hcs⟩ := hX.2 (by omega)
  obtain ⟨b', off', rfl, hb', hcs'⟩ := hM.2.1 (by omega)
  obtain ⟨b'', off'', hR, hb'', hcs''⟩ := (hM.2.2 i i2).1.2 (by omega)
  have c0 := hcs i i1
  have c1 := hcs' i i2
  have c2 := hcs'' k i3
  rw [hR] at c1
  clear hcs hcs' hcs'' hX hM hR
  go_enter Try.func50, Try.ntmps50
  go_wp2
  go_quiet (fail)
  go_wp2
  go_ret2
  exact ⟨rfl, New.of_drewN _ _⟩

def mmVal (X Y : Nat → Nat → Int) (nb i k : Nat) : Nat := dotN (elN X i) (fun q => elN Y q k) nb
def mmCode (n : Nat) (L : Nat → Nat) (X : Nat → Nat → Int) (nb : Nat) (L' : Nat → Nat) (Y : Nat → Nat → Int) : Int := if mayM n L X = true ∧ mayM nb L' Y = true then (if L 0 = nb then 0 else 1) else 4
def mmLen (n : Nat) (L : Nat → Nat) (X : Nat → Nat → Int) (nb : Nat) (L' : Nat → Nat) (Y : Nat → Nat → Int) : Nat := if mmCode n L X nb L' Y = 0 then n else 0
def rowsL (G : Nat → Nat) (m k : Nat) : List Value := (List.range k).map fun i => .slice (some ⟨G i, 0, none⟩) m m
theorem rowsL_succ (G : Nat → Nat) (m k g : Nat) : rowsL (fun i => if i = k then g else G i) m (k + 1) = rowsL G m k ++ [.slice (some ⟨g, 0, none⟩) m m] := by
  unfold rowsL
  rw [List.range_succ, List.map_append]
  congr 1
  · apply List.map_congr_left
    intro i hi
    have : i ≠ k := by have := List.mem_range.1 hi; omega
    simp [this]
  · simp
/-- a row of one element type is no row of another -/
theorem row_ne_own {w : World} {base : Nat} {e t : TypeId} {size : Nat} {v : Value} {n b m : Nat} {xs : List Value} {f : Nat → Value} (h : w.ownsRow base e size v n xs) (hr : w.rowIs b t m f) (hne : e ≠ t) : v.ownBlock ≠ some b := by
  intro he
  rcases h.2 with ⟨rfl, _⟩ | ⟨g, cap, cur, rfl, _, hg, _⟩
  · cases he
  · have hgb : g = b := by simpa [Value.ownBlock] using he
    subst hgb
    obtain ⟨c, hc, _⟩ := hr
    rw [hg] at hc
    injection hc with hc
    injection hc with _ hc _
    exact hne hc
/-- own rows behind an own row of slices, read -/
theorem own_rdM {w : World} {base : Nat} {size : Nat} {v : Value} {n m : Nat} {G : Nat → Nat} {e t : TypeId} {f : Nat → Nat → Nat} (h : w.ownsRow base e size v n (rowsL G m n)) (hr : ∀ i, i < n → w.rowIs (G i) t m (fun j => .int .i64 (f i j : Nat))) (hm : m ≤ maxLen) :
    ∃ A c, v = .slice A n c ∧ RdM .i64 w A n (fun i => some ⟨G i, 0, none⟩) (fun _ => m) (fun _ => m) (fun i j => (f i j : Nat)) := by
  obtain ⟨A, c, rfl, h1, h2, h3, h4⟩ := own_open h
  refine ⟨A, c, rfl, by omega, fun h0 => ?_, fun i hi => ⟨⟨hm, fun h0 => ⟨G i, 0, rfl, (hr i hi).lt, fun j hj => ?_⟩⟩, Nat.le_refl _, hm⟩⟩
  · obtain ⟨g, rfl, _, hg⟩ := h3 h0
    refine ⟨g, 0, rfl, hg, fun i hi => ?_⟩
    have := h4 g rfl i (.slice (some ⟨G i, 0, none⟩) m m) (by simp [rowsL, hi])
    simpa using this
  · simpa using (hr i hi).cell hj
theorem rowIs_new {w w' : World} {b : Nat} {t : TypeId} {n : Nat} {f : Nat → Value} (h : w.rowIs b t n f) (hn : New w w') : w'.rowIs b t n f := h.of_block (hn.block _ h.lt)
theorem rowIs_grown {w w' : World} {b : Nat} {t : TypeId} {n : Nat} {f : Nat → Value} {row : Option Nat} (h : w.rowIs b t n f) (hg : w.grownBy w' row) (hr : row ≠ some b) : w'.rowIs b t n f := h.of_block (hg.block _ h.lt (Ne.symm hr))

theorem Mul_any (A : Option Addr) (n c : Nat) (R : Nat → Option Addr) (L C : Nat → Nat) (X : Nat → Nat → Int) (B : Option Addr) (nb cb : Nat) (R' : Nat → Option Addr) (L' C' : Nat → Nat) (Y : Nat → Nat → Int) (w : World)
    (hA : RdM .i64 w A n R L C X) (hB : RdM .i64 w B nb R' L' C' Y) :
    Calls Try.prog 32 #[.slice A n c, .slice B nb cb] w fun e w' => ∃ v, e = .returned (.tuple #[v, .int .i64 (mmCode n L X nb L' Y)]) ∧
      (∃ B d R1 C1, v = .slice B (mmLen n L X nb L' Y) d ∧ RdM .i64 w' B (mmLen n L X nb L' Y) R1 (fun _ => L' 0) C1 (fun i k => (mmVal X Y nb i k : Nat))) ∧ New w w' := by
  have hN0 : New w (w.alloc (.cells #[.slice B nb cb] 28)) := (New.refl w).alloc _
  obtain ⟨cd, hcd⟩ : ∃ cd, Hid (cd = mmCode n L X nb L' Y) := ⟨_, (rfl : _ = _)⟩
  obtain ⟨ln, hln⟩ : ∃ ln, Hid (ln = mmLen n L X nb L' Y) := ⟨_, (rfl : _ = _)⟩
  rw [← hcd.out, ← hln.out]
  have hA0 := Lib.hid hA
  have hB0 := Lib.hid hB
  have hmB := hB.1
  unfold maxLen at hmB
  clear hA hB
  cases hm : mayM n L X with
  | false =>
    have hc : cd = 4 := by rw [hcd.out]; unfold mmCode; simp [hm]
    have hl : ln = 0 := by rw [hln.out]; unfold mmLen; rw [← hcd.out]; simp [hc]
    subst hc hl
    go_enter Try.func32, Try.ntmps32
    go_wp2_with fail
    refine (May_any _ _ _ _ _ _ _ _ (hA0.out.new hN0)).mono ?_
    rw [hm]
    rintro e w1 ⟨rfl, rfl⟩
    go_wp2
    go_ret2
    exact ⟨_, rfl, ⟨none, 0, fun _ => none, fun _ => 0, rfl, nil_rdM _ _ _ _ _⟩, hN0⟩
  | true =>
    cases ha : mayM nb L' Y with
    | false =>
      have hc : cd = 4 := by rw [hcd.out]; unfold mmCode; simp [ha]
      have hl : ln = 0 := by rw [hln.out]; unfold mmLen; rw [← hcd.out]; simp [hc]
      subst hc hl
      go_enter Try.func32, Try.ntmps32
      go_wp2_with fail
      refine (May_any _ _ _ _ _ _ _ _ (hA0.out.new hN0)).mono ?_
      rw [hm]
      rintro e w1 ⟨rfl, rfl⟩
      go_wp2_with fail
      refine (May_any _ _ _ _ _ _ _ _ (hB0.out.new hN0)).mono ?_
      rw [ha]
      rintro e w1 ⟨rfl, rfl⟩
      go_wp2
      go_ret2
      exact ⟨_, rfl, ⟨none, 0, fun _ => none, fun _ => 0, rfl, nil_rdM _ _ _ _ _⟩, hN0⟩
    | true =>
      obtain ⟨hn1, hn8, hrow⟩ := mayM_out hm
      obtain ⟨hb1, hb8, hrow'⟩ := mayM_out ha
      obtain ⟨b, off, rfl, hb, hcs⟩ := hA0.out.2.1 (by omega)
      obtain ⟨b', off', rfl, hb', hcs'⟩ := hB0.out.2.1 (by omega)
      have z0 := hcs 0 (by omega)
      have z1 := hcs' 0 (by omega)
      simp at z0 z1
      have hcs0 := Lib.hid hcs
      have hcs0' := Lib.hid hcs'
      have hrow0 := Lib.hid hrow
      have hrow0' := Lib.hid hrow'
      have hL8 : L 0 ≤ 8 := (hrow 0 (by omega)).2.2.1
      have hm8 : L' 0 ≤ 8 := (hrow' 0 (by omega)).2.2.1
      have hm0 := Lib.hid hm
      have ha0 := Lib.hid ha
      by_cases hsz : L 0 = nb
      · have hc : cd = 0 := by rw [hcd.out]; unfold mmCode; simp [hm, ha, hsz]
        have hl : n = ln := by rw [hln.out]; unfold mmLen; rw [← hcd.out]; simp [hc]
        subst hc hl
        have hsz1 := Lib.hid hsz
        rw [hsz] at z0
        clear hsz hcs hcs' hrow hrow' hm ha
        obtain ⟨i0, hi0, hz0, hz1, hz2⟩ := info_parts info30
        obtain ⟨m, hm1⟩ : ∃ m, Hid (m = L' 0) := ⟨_, (rfl : _ = _)⟩
        rw [← hm1.out] at z1 hm8
        have hmk := run_make_row' (P := Try.prog) 30 3 (.int .i64 0) 8 Try.underlying30 infoInt rfl .i64 .i64 m (by omega) (by omega)
        have hbox0 : Blk (w.alloc (.cells #[.slice (some ⟨b', off', none⟩) nb cb] 28)) w.heap.size 28 #[.slice (some ⟨b', off', none⟩) nb cb] := Blk.fresh _ _ _
        go_enter Try.func32, Try.ntmps32
        go_wp2_with fail
        refine (May_any _ _ _ _ _ _ _ _ (hA0.out.new hN0)).mono ?_
        rw [hm0.out]
        rintro e w1 ⟨rfl, rfl⟩
        go_wp2_with fail
        refine (May_any _ _ _ _ _ _ _ _ (hB0.out.new hN0)).mono ?_
        rw [ha0.out]
        rintro e w1 ⟨rfl, rfl⟩
        go_wp2
        go_quiet (fail)
        go_wp2
        go_loopw [28, 6] (fun c s wr => ∃ (k : Nat) (sv : Value) (G : Nat → Nat), sv = s ∧ c = .int .i64 k ∧ k ≤ n ∧ wr.ownsRow (w.heap.size + 1) 30 1 sv k (rowsL G m k) ∧ New w wr ∧ Blk wr w.heap.size 28 #[.slice (some ⟨b', off', none⟩) nb cb] ∧
          Hid (∀ i, i < k → wr.rowIs (G i) 3 m (fun j => .int .i64 (mmVal X Y nb i j : Nat)))) (fun c _ _ => n - (intOf c).toNat)
        case atStart => exact ⟨0, _, fun _ => 0, rfl, rfl, by omega, World.ownsRow_nil _ _ _ _, hN0.drewN _, hbox0, fun i hi => absurd hi (Nat.not_lt_zero i)⟩
        case round =>
          obtain ⟨k, sv, G, rfl, rfl, hk, hown, hnw, hbox, hG⟩ := hrel
          obtain ⟨W0, hW0⟩ : ∃ W0, W0 = wr := ⟨_, rfl⟩
          subst hW0
          by_cases hlt : k < n
          · have ck := (hnw.cell hb).trans (hcs0.out k hlt)
            have hLk : Hid (L k = nb) := (hrow0.out k hlt).1.trans hsz1.out
            rw [hLk.out] at ck
            have hX : Hid (RdI .i64 w (R k) nb (X k)) := by have := (hA0.out.2.2 k hlt).1; rw [hLk.out] at this; exact this
            have hel : Hid (∀ j, j < nb → elP (X k j)) := by have := allE_out (hrow0.out k hlt).2.2.2; rw [hLk.out] at this; exact this
            have cbx := hbox.cell 0
            simp at cbx
            have hbl := hbox.lt
            have hbr : b < W0.heap.size := Nat.lt_of_lt_of_le hb hnw.size
            have hbr' : b' < W0.heap.size := Nat.lt_of_lt_of_le hb' hnw.size
            have z1' := (hnw.cell hb').trans z1
            have hown1 := Lib.hid hown
            clear hown
            have hX0 := hX.out.new hnw
            obtain ⟨rk, hrk⟩ : ∃ r, Hid (R k = r) := ⟨_, (rfl : _ = _)⟩
            rw [hrk.out] at ck
            rw [hrk.out] at hX0
            have hX1 := Lib.hid hX0
            clear hX0
            have hfr : Blk ((W0.alloc (.cells #[.slice rk nb (C k)] 30)).alloc (.cells (madeCells #[.int .i64 0] m) 3)) W0.heap.size 30 #[.slice rk nb (C k)] := (Blk.fresh W0 _ _).alloc _
            have hrw : ((W0.alloc (.cells #[.slice rk nb (C k)] 30)).alloc (.cells (madeCells #[.int .i64 0] m) 3)).rowIs (W0.heap.size + 1) 3 m (stF (mmVal X Y nb k) 0 0) := by
              have := (World.rowIs_made (W0.alloc (.cells #[.slice rk nb (C k)] 30)) (.int .i64 0) m 3).congr (g := stF (mmVal X Y nb k) 0 0) fun j hj => by simp [stF]
              simpa using this
            have hnew : New W0 ((W0.alloc (.cells #[.slice rk nb (C k)] 30)).alloc (.cells (madeCells #[.int .i64 0] m) 3)) := ((New.refl W0).alloc _).alloc _
            have hfr1 := Lib.hid hfr
            have hrw1 := Lib.hid hrw
            have hnew1 := Lib.hid hnew
            have hbox1 := Lib.hid hbox
            have hnw1 := Lib.hid hnw
            clear hfr hrw hnew hbox hnw
            go_wp2
            go_loopw [39] (fun c wr => ∃ q : Nat, c = .int .i64 q ∧ q ≤ m ∧ New W0 wr ∧ Blk wr W0.heap.size 30 #[.slice rk nb (C k)] ∧ wr.rowIs (W0.heap.size + 1) 3 m (stF (mmVal X Y nb k) 0 q)) (fun c _ => m - (intOf c).toNat)
            case atStart => exact ⟨0, rfl, by omega, hnew1.out, hfr1.out, hrw1.out⟩
            case round =>
              obtain ⟨q, rfl, hq, hn2, hfr2, hrw2⟩ := hrel
              by_cases hqm : q < m
              · have hfr3 := Lib.hid hfr2
                have hrw3 := Lib.hid hrw2
                have hn3 := Lib.hid hn2
                have hs1 : W0.heap.size < wr.heap.size := hfr2.lt
                have hs2 : W0.heap.size + 1 < wr.heap.size := hrw2.lt
                clear hfr2 hrw2 hn2
                have hfr4 : Blk (wr.alloc (.cells #[.int .i64 q] 3)) W0.heap.size 30 #[.slice rk nb (C k)] := hfr3.out.alloc _
                have hrw4 : (wr.alloc (.cells #[.int .i64 q] 3)).rowIs (W0.heap.size + 1) 3 m (stF (mmVal X Y nb k) 0 q) := hrw3.out.alloc _
                have hbox4 : Blk (wr.alloc (.cells #[.int .i64 q] 3)) w.heap.size 28 #[.slice (some ⟨b', off', none⟩) nb cb] := (hbox1.out.new hn3.out).alloc _
                have hkb4 : Blk (wr.alloc (.cells #[.int .i64 q] 3)) wr.heap.size 3 #[.int .i64 q] := Blk.fresh _ _ _
                have hn4 : New W0 (wr.alloc (.cells #[.int .i64 q] 3)) := hn3.out.alloc _
                have hfr5 := Lib.hid hfr4
                have hrw5 := Lib.hid hrw4
                have hbox5 := Lib.hid hbox4
                have hkb5 := Lib.hid hkb4
                have hn5 := Lib.hid hn4
                clear hfr4 hrw4 hbox4 hkb4 hn4
                go_wp2
                obtain ⟨W1, hW1⟩ : ∃ W1, W1 = wr.alloc (.cells #[.int .i64 q] 3) := ⟨_, rfl⟩
                rw [← hW1] at hfr5 hrw5 hbox5 hkb5 hn5 ⊢
                clear hW1
                have f1 := hkb5.out.cell 0
                have f2 := hbox5.out.cell 0
                simp at f1 f2
                have k1 := NewW.keep f1
                have k2 := NewW.keep f2
                have hdot : Hid (∀ w', New W1 w' → Calls Try.prog 48 #[.int .i64 nb, .func (.func 50) #[] #[.pointer (some ⟨W0.heap.size, 0, none⟩), .pointer (some ⟨w.heap.size, 0, none⟩), .pointer (some ⟨wr.heap.size, 0, none⟩)]] w' fun e w'' => e = .returned (.int .i64 (mmVal X Y nb k q : Nat)) ∧ New w' w'') := by
                  intro w' hn'
                  refine dot_any nb hb8 50 enterMul1 _ (elN X k) (fun p => elN Y p q) (fun j hj => ?_) (fun j hj => ?_) _ (fun j w1 hj hn1 => ?_)
                  · have := hel.out j hj; unfold elP at this; unfold elN; omega
                  · have h2 := hrow0'.out j hj
                    have := allE_out h2.2.2.2 q (by rw [h2.1, ← hm1.out]; exact hqm)
                    unfold elP at this; show (Y j q).toNat < 256; omega
                  · have q1 := hel.out j hj
                    have h2 := hrow0'.out j hj
                    have q2 := allE_out h2.2.2.2 q (by rw [h2.1, ← hm1.out]; exact hqm)
                    have hN := hn'.next hn1
                    have := mul1_any j q nb (C k) nb cb rk (some ⟨b', off', none⟩) (X k) R' L' C' Y W0.heap.size w.heap.size wr.heap.size w1 (by rw [(hfr5.out.new hN).cell 0]; rfl) (by rw [(hbox5.out.new hN).cell 0]; rfl) (by rw [(hkb5.out.new hN).cell 0]; rfl)
                      (hX1.out.new (hn5.out.next hN)) (hB0.out.new ((hnw1.out.next hn5.out).next hN)) hj hj (by rw [h2.1, ← hm1.out]; exact hqm) h2.2.2.1
                    rw [show (elN X k j : Int) = X k j by unfold elP at q1; unfold elN; omega, show ((fun p => elN Y p q) j : Int) = Y j q by unfold elP at q2; show ((Y j q).toNat : Int) = Y j q; omega]
                    exact this
                have a1 : (q : Int) < (m : Int) := by omega
                have a3 : (0 : Int) ≤ (q : Int) := by omega
                (refine wp_region_new_tail 7 (by kernel_rfl) (by kernel_rfl) ?_; simp only [List.take_succ_cons, List.take_zero, List.drop_succ_cons, List.drop_zero]; (repeat (first | go_big_quiet_step (first | (go_at_call 48; exact NewW.call _ (hdot.out _ (NewW.is _)))) | quiet_step (first | (go_at_call 48; exact NewW.call _ (hdot.out _ (NewW.is _)))))); refine wpQuiet_nil ?_; rintro W2 ⟨⟨_, hn_W2⟩, rfl⟩)
                have hrw6 : W2.rowIs (W0.heap.size + 1) 3 m (stF (mmVal X Y nb k) 0 q) := rowIs_new hrw5.out hn_W2
                have hz := hrw6.frozen q
                have hz2 := hrw6.cell hqm
                rw [stF_at] at hz2
                go_wp2
                go_roundw
                case rel =>
                  refine ⟨q + 1, by go_num, by omega, (hn5.out.next hn_W2).set (by simp) _, (hfr5.out.new hn_W2).far (by simp) _, ?_⟩
                  have := hrw6.set q (.int .i64 ((mmVal X Y nb k q : Nat) : Int))
                  rw [stF_set] at this
                  rw [← stF_next]
                  exact this
                case measure => simp [intOf]; omega
              · have hqe : q = m := by omega
                subst hqe
                have hfin : Hid (wr.rowIs (W0.heap.size + 1) 3 q (fun j => .int .i64 (mmVal X Y nb k j : Nat))) := hrw2.congr fun j hj => by simp [stF, hj]
                have hown2 : wr.ownsRow (w.heap.size + 1) 30 1 sv k (rowsL G q k) := own_new hown1.out hn2
                have hnw2 := hnw1.out.next hn2
                have hbox2 := hbox1.out.new hn2
                have hG2 : Hid (∀ i, i < k → wr.rowIs (G i) 3 q (fun j => .int .i64 (mmVal X Y nb i j : Nat))) := fun i hi => rowIs_new (hG.out i hi) hn2
                have hbw := hbox2.lt
                have hnext := Lib.hid (rowsL_succ G q k (W0.heap.size + 1))
                have hs1 : W0.heap.size + 1 < wr.heap.size := hrw2.lt
                have hnw3 := Lib.hid hnw2
                have hbox3 := Lib.hid hbox2
                clear hn2 hfr2 hrw2 hnw2 hbox2
                go_wp2_with (at_builtin; refine wpList_append_own _ rfl _ _ 28 rfl (w.heap.size + 1) 30 i0 _ 1 24 Try.underlying28 hi0 hz0 hz1 hz2 rfl (by decide) sv k (rowsL G q k) rfl (hown2.alloc _) ⟨wr.heap.size, 0, none⟩ 1 1 [.slice (some ⟨W0.heap.size + 1, 0, none⟩) q q] rfl rfl (World.news_of_block (cs := #[.slice (some ⟨W0.heap.size + 1, 0, none⟩) q q]) (t := 30) (fr := (0, 0)) (heap_alloc_new wr _)) (by simp [Value.oneCell']) (by unfold maxLen; omega) (by omega) (by simp; omega) ?_; intro v3 w3 hown3 hgrow hnil)
                have hoa := Lib.hid (hown2.alloc (.cells #[.slice (some ⟨W0.heap.size + 1, 0, none⟩) q q] 30))
                have hbox4 : Blk w3 w.heap.size 28 #[.slice (some ⟨b', off', none⟩) nb cb] := (hbox3.out.alloc _).grown hgrow fun he => by have := (hown2.lt _ he).1; omega
                have hN4 : New w w3 := hnw3.out.append' hgrow fun g hg => by have := (hown2.lt _ hg).1; omega
                have hG4 : Hid (∀ i, i < k + 1 → w3.rowIs ((fun i => if i = k then W0.heap.size + 1 else G i) i) 3 q (fun j => .int .i64 (mmVal X Y nb i j : Nat))) := fun i hi => by
                  by_cases hik : i = k
                  · subst hik
                    simp only [if_pos]
                    exact rowIs_grown (hfin.out.alloc _) hgrow (row_ne_own hoa.out (hfin.out.alloc _) (by decide))
                  · simp only [if_neg hik]
                    have := hG2.out i (by omega)
                    exact rowIs_grown (this.alloc _) hgrow (row_ne_own hoa.out (this.alloc _) (by decide))
                rw [← hnext.out] at hown3
                have hown4 := Lib.hid hown3
                clear hown3 hown2
                go_wp2
                go_roundw
                case rel => exact ⟨k + 1, _, _, rfl, by go_num, by omega, hown4.out, hN4, hbox4, hG4⟩
                case measure => simp [intOf]; omega
          · have hin : k = n := by omega
            subst hin
            obtain ⟨B1, d1, rfl, hR⟩ := own_rdM hown hG.out (by unfold maxLen; omega)
            rw [hm1.out] at hR
            go_wp2
            go_ret2
            exact ⟨_, rfl, ⟨B1, ⟨d1, rfl⟩, _, _, hR⟩, hnw⟩
      · have hc : cd = 1 := by rw [hcd.out]; unfold mmCode; simp [hm, ha, hsz]
        have hl : ln = 0 := by rw [hln.out]; unfold mmLen; rw [← hcd.out]; simp [hc]
        subst hc hl
        have hne : ((L 0 : Int) != (nb : Int)) = true := by simp; omega
        clear hcs hcs' hrow hrow' hm ha
        go_enter Try.func32, Try.ntmps32
        go_wp2_with fail
        refine (May_any _ _ _ _ _ _ _ _ (hA0.out.new hN0)).mono ?_
        rw [hm0.out]
        rintro e w1 ⟨rfl, rfl⟩
        go_wp2_with fail
        refine (May_any _ _ _ _ _ _ _ _ (hB0.out.new hN0)).mono ?_
        rw [ha0.out]
        rintro e w1 ⟨rfl, rfl⟩
        go_wp2
        go_quiet (fail)
        go_wp2
        go_ret2
        exact ⟨_, rfl, ⟨none, 0, fun _ => none, fun _ => 0, rfl, nil_rdM _ _ _ _ _⟩, hN0.drewN _⟩
end Go.Proofs.Ytidhghcgbomdiaa.mat
