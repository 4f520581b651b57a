/-
  Contracts of comb.At and of the reference's CombAt.
-/
import Derived.Test.YtpknpmmcploacaaCombPlain
import Derived.Test.YtpknpmmcploacaaCombNum
namespace Go.Proofs.Ytpknpmmcploacaa.comb
open Go.ChangeShapes Go.WideShapes Go.ChangeAt Go.RowKit Go.Proofs.Ytpknpmmcploacaa.kit Go.Deep
set_option linter.unusedVariables false

theorem At_bad (n k q : Int) (w : World) (h : ¬ combP n k ∨ q < 0) :
    Calls Try.prog 29 #[.int .i64 n, .int .i64 k, .int .i64 q] w fun e w' => e = .returned (.tuple #[.slice none 0 0, .int .i64 2]) ∧ w = w' := by
  by_cases hc : combP n k
  · have hq : q < 0 := by rcases h with h | h; exact absurd hc h; exact h
    have hd : decide (combP n k) = true := decide_eq_true hc
    clear h hc
    go_enter Try.func29, Try.ntmps29
    go_wp2_with fail
    refine (fine_any _ _ _).mono ?_
    rw [hd]
    rintro e w1 ⟨rfl, rfl⟩
    go_wp2
    go_ret2
    exact ⟨rfl, rfl⟩
  · have hd : decide (combP n k) = false := decide_eq_false hc
    clear h hc
    go_enter Try.func29, Try.ntmps29
    go_wp2_with fail
    refine (fine_any _ _ _).mono ?_
    rw [hd]
    rintro e w1 ⟨rfl, rfl⟩
    go_wp2
    go_ret2
    exact ⟨rfl, rfl⟩
theorem At_over (n k : Nat) (q : Int) (w : World) (hn : n ≤ 12) (hk : k ≤ n) (h : (ch n k : Int) ≤ q) :
    Calls Try.prog 29 #[.int .i64 n, .int .i64 k, .int .i64 q] w fun e w' => e = .returned (.tuple #[.slice none 0 0, .int .i64 2]) ∧ w = w' := by
  have hd : decide (combP n k) = true := decide_eq_true (by unfold combP; omega)
  obtain ⟨x, hx⟩ : ∃ x, Hid (x = ch n k) := ⟨_, (rfl : _ = _)⟩
  rw [← hx.out] at h
  have hq : ¬ q < 0 := by omega
  go_enter Try.func29, Try.ntmps29
  go_wp2_with fail
  refine (fine_any _ _ _).mono ?_
  rw [hd]
  rintro e w1 ⟨rfl, rfl⟩
  go_wp2_with fail
  refine (choose_ok n k _ hn (by omega)).mono ?_
  rw [← hx.out]
  rintro e w1 ⟨rfl, rfl⟩
  go_wp2
  go_ret2
  exact ⟨rfl, rfl⟩
/-- what has been picked, and what is still to be looked for -/
def Rest (n k q : Nat) (out : List Nat) (x r : Nat) : Prop := (pickL n 0 k)[q]? = ((pickL (n - x) x (k - out.length))[r]?).map (fun l => out ++ l)
theorem At_ok (n k q : Nat) (w : World) (hn : n ≤ 12) (hk : k ≤ n) (h : q < ch n k) (l : List Nat) (hl : (pickL n 0 k)[q]? = some l) :
    Calls Try.prog 29 #[.int .i64 n, .int .i64 k, .int .i64 q] w fun e w' => ∃ v, e = .returned (.tuple #[v, .int .i64 0]) ∧ w'.ownsRow w.heap.size 3 1 v l.length (l.map encN) ∧ New w w' := by
  have hd : decide (combP n k) = true := decide_eq_true (by unfold combP; omega)
  obtain ⟨x, hx⟩ : ∃ x, Hid (x = ch n k) := ⟨_, (rfl : _ = _)⟩
  rw [← hx.out] at h
  have hlk : Hid (l.length = k) := pickL_len n 0 k l (List.mem_of_getElem? hl)
  have hR0 : Hid (Rest n k q [] 0 q) := by
    show (pickL n 0 k)[q]? = ((pickL (n - 0) 0 (k - 0))[q]?).map (fun l => [] ++ l)
    simp
  have hr0 : Hid (q < ch (n - 0) (k - 0)) := by rw [← show x = ch (n - 0) (k - 0) from hx.out]; exact h
  obtain ⟨i0, hi0, hz0, hz1, hz2⟩ := info_parts infoInt
  have hl1 := Lib.hid hl
  clear hl
  go_enter Try.func29, Try.ntmps29
  go_wp2_with fail
  refine (fine_any _ _ _).mono ?_
  rw [hd]
  rintro e w1 ⟨rfl, rfl⟩
  go_wp2_with fail
  refine (choose_ok n k _ hn (by omega)).mono ?_
  rw [← hx.out]
  rintro e w1 ⟨rfl, rfl⟩
  go_wp2
  go_loopw [9, 8, 2] (fun c o r wr => ∃ (y r' : Nat) (out : List Nat), c = .int .i64 y ∧ r = .int .i64 r' ∧ y ≤ n ∧ out.length ≤ k ∧ wr.ownsRow w.heap.size 3 1 o out.length (out.map encN) ∧ Hid (Rest n k q out y r') ∧ Hid (r' < ch (n - y) (k - out.length)) ∧ New w wr) (fun c _ _ _ => n + 1 - (intOf c).toNat)
  case atStart => exact ⟨0, q, [], rfl, rfl, by omega, by simp, World.ownsRow_nil _ _ _ _, hR0, hr0, New.refl w⟩
  case round =>
    obtain ⟨y, r, out, rfl, rfl, hy, hok, hown, hRest, hrl, hnw⟩ := hrel
    obtain ⟨A, c, rfl, hc1, hc2, hdrop⟩ := own_open hown
    clear hdrop
    obtain ⟨m, hm⟩ : ∃ m, m = out.length := ⟨_, rfl⟩
    have hm1 := Lib.hid hm
    rw [← hm] at hc1 hown hok hrl ⊢
    clear hm
    by_cases hlt : (m : Int) < (k : Int)
    · have hyn : y < n := by
        rcases Nat.lt_or_ge y n with h1 | h1
        · exact h1
        · have h2 := hrl.out
          rw [show n - y = 0 by omega, show k - m = (k - m - 1) + 1 by omega, ch_zero_succ _ (by omega)] at h2
          exact absurd h2 (Nat.not_lt_zero _)
      obtain ⟨d, hd⟩ : ∃ d, n = y + d + 1 := ⟨n - y - 1, by omega⟩
      obtain ⟨kk, hkk⟩ : ∃ kk, k = m + kk + 1 := ⟨k - m - 1, by omega⟩
      obtain ⟨z, hz⟩ : ∃ z, Hid (z = ch d kk) := ⟨_, (rfl : _ = _)⟩
      have hch := Lib.hid (fun w => choose_int ((n : Int) - (y : Int) - 1) ((k : Int) - (m : Int) - 1) d kk w (by omega) (by omega) (by omega) (by omega))
      rw [← hz.out] at hch
      have hzs : z ≤ 924 := by rw [hz.out]; exact ch_le (by omega) (by omega)
      have hrs : r < ch (n - y) (k - m) := hrl.out
      have hrs2 : r ≤ 924 := by have := ch_le (n := n - y) (i := k - m) (by omega) (by omega); omega
      have hd1 := Lib.hid hd
      have hkk1 := Lib.hid hkk
      have hrs1 := Lib.hid hrs
      clear hd hkk hrs
      go_wp2_with fail
      refine (hch.out _).mono ?_
      rintro e1 w1 ⟨rfl, rfl⟩
      by_cases hge : z ≤ r
      · have hR2 : Hid (Rest n k q out (y + 1) (r - z)) := by
          have h1 := hRest.out
          have hd := hd1.out
          have hkk := hkk1.out
          unfold Rest at h1
          rw [← hm1.out, show n - y = d + 1 by omega, show k - m = kk + 1 by omega, pick_next d y kk r (by omega) (by omega) (by rw [← hz.out]; exact hge), ← hz.out] at h1
          show (pickL n 0 k)[q]? = ((pickL (n - (y + 1)) (y + 1) (k - out.length))[r - z]?).map (fun l => out ++ l)
          rw [← hm1.out, show n - (y + 1) = d by omega, show k - m = kk + 1 by omega]
          exact h1
        have hr2 : Hid (r - z < ch (n - (y + 1)) (k - m)) := by
          have h1 := hrs1.out
          have hd := hd1.out
          have hkk := hkk1.out
          rw [show n - y = d + 1 by omega, show k - m = kk + 1 by omega, ch_pascal d (by omega) kk (by omega), ← hz.out] at h1
          rw [show n - (y + 1) = d by omega, show k - m = kk + 1 by omega]
          show _ < _
          omega
        have hown1 := Lib.hid hown
        clear hown
        go_wp2
        go_roundw
        case rel =>
          simp
          exact ⟨.int .i64 ((r - z : Nat) : Int), .slice A m c, .int .i64 ((y + 1 : Nat) : Int), ⟨y + 1, rfl, r - z, rfl, by omega, out, by rw [← hm1.out]; exact hok, by rw [← hm1.out]; exact hown1.out, hR2, by rw [← hm1.out]; exact hr2, hnw⟩, intv (by omega), rfl, intv (by omega), h, by omega⟩
        case measure => simp [intOf]; omega
      · have hR2 : Hid (Rest n k q (out ++ [y]) (y + 1) r) := by
          have h1 := hRest.out
          have hd := hd1.out
          have hkk := hkk1.out
          unfold Rest at h1
          rw [← hm1.out, show n - y = d + 1 by omega, show k - m = kk + 1 by omega, pick_here d y kk r (by omega) (by omega) (by rw [← hz.out]; omega), Option.map_map] at h1
          show (pickL n 0 k)[q]? = ((pickL (n - (y + 1)) (y + 1) (k - (out ++ [y]).length))[r]?).map (fun l => out ++ [y] ++ l)
          rw [show (out ++ [y]).length = m + 1 by simp [hm1.out], show n - (y + 1) = d by omega, show k - (m + 1) = kk by omega, h1]
          congr 1
          funext l
          simp
        have hr2 : Hid (r < ch (n - (y + 1)) (k - (m + 1))) := by
          have hd := hd1.out
          have hkk := hkk1.out
          rw [show n - (y + 1) = d by omega, show k - (m + 1) = kk by omega, ← hz.out]
          show _ < _
          omega
        have hlen2 : Hid ((out ++ [y]).length = m + 1) := by have := hm1.out; show _ = _; simp [this]
        go_wp2_with (at_builtin; refine wpList_append_own _ rfl _ _ 24 rfl w.heap.size 3 i0 _ 1 8 Try.underlying24 hi0 hz0 hz1 hz2 rfl (by decide) _ m (out.map encN) rfl (hown.alloc _) ⟨wr.heap.size, 0, none⟩ 1 1 [.int .i64 y] rfl rfl (World.news_of_block (cs := #[.int .i64 _]) (t := 3) (fr := (0, 0)) (heap_alloc_new wr _)) (by simp [Value.oneCell']) (by unfold maxLen; omega) (by omega) (by have := hnw.size; simp; omega) ?_; intro v3 w3 hown3 hgrow hnil)
        have hN3 : New w w3 := hnw.append' hgrow fun g hg => (hown.lt _ hg).1
        have hown4 : Hid (w3.ownsRow w.heap.size 3 1 v3 (m + 1) ((out ++ [y]).map encN)) := by
          rw [List.map_append]; exact hown3
        clear hown3 hgrow hnil
        go_wp2
        go_roundw
        case rel =>
          simp
          exact ⟨.int .i64 (r : Int), v3, .int .i64 ((y + 1 : Nat) : Int), ⟨y + 1, rfl, r, rfl, by omega, out ++ [y], by rw [hlen2.out]; omega, by rw [hlen2.out]; exact hown4.out, hR2, by rw [hlen2.out]; exact hr2, hN3⟩, rfl, rfl, intv (by omega), h, by omega⟩
        case measure => simp [intOf]; omega
    · have hmk : m = k := by omega
      have hlo : l = out := by
        have h1 := hRest.out
        have h2 := hrl.out
        unfold Rest at h1
        rw [← hm1.out, hmk, Nat.sub_self, pickL_zero, hl1.out] at h1
        rw [hmk, Nat.sub_self] at h2
        have hr0 : r = 0 := by have : r < 1 := h2; omega
        subst hr0
        simpa using h1
      subst hlo
      have hml := hm1.out
      have hown1 : Hid (wr.ownsRow w.heap.size 3 1 (.slice A k c) l.length (l.map encN)) := by rw [← hml, ← hmk]; exact hown
      clear hown hml
      go_wp2
      go_ret2
      exact ⟨_, rfl, hown1.out, hnw⟩
theorem CombAt_bad (n k q : Int) (w : World) (h : ¬ combP n k) :
    Calls Try.prog 30 #[.int .i64 n, .int .i64 k, .int .i64 q] w fun e w' => e = .returned (.tuple #[.slice none 0 0, .int .i64 2]) ∧ w = w' := by
  have hd : decide (combP n k) = false := decide_eq_false h
  clear h
  go_enter Try.func30, Try.ntmps30
  go_wp2_with fail
  refine (pickRange_any _ _ _).mono ?_
  rw [hd]
  rintro e w1 ⟨rfl, rfl⟩
  go_wp2
  go_ret2
  exact ⟨rfl, rfl⟩
theorem CombAt_over (n k : Nat) (q : Int) (w : World) (hn : n ≤ 12) (hk : k ≤ n) (h : q < 0 ∨ (ch n k : Int) ≤ q) :
    Calls Try.prog 30 #[.int .i64 n, .int .i64 k, .int .i64 q] w fun e w' => e = .returned (.tuple #[.slice none 0 0, .int .i64 2]) ∧ New w w' := by
  have hd : decide (combP n k) = true := decide_eq_true (by unfold combP; omega)
  have hpk : Hid (∀ w, Calls Try.prog 51 #[.int .i64 0, .int .i64 n, .int .i64 k] w (PickP n 0 k w)) := fun w => picks_ok n 0 k n (by omega) hn (by omega) w
  have hlen := pickL_ch n 0 k hn (by omega)
  obtain ⟨L, hL⟩ : ∃ L, Hid (L = pickL n 0 k) := ⟨_, (rfl : _ = _)⟩
  rw [← hL.out] at hlen
  rw [← hlen] at h
  clear hlen
  have hLs : L.length ≤ 4096 := by
    rw [hL.out]; exact Nat.le_trans (pickL_size n 0 k) (Nat.pow_le_pow_right (by omega) hn)
  go_enter Try.func30, Try.ntmps30
  go_wp2_with fail
  refine (pickRange_any _ _ _).mono ?_
  rw [hd]
  rintro e w1 ⟨rfl, rfl⟩
  go_wp2_with fail
  refine (hpk.out _).mono ?_
  rintro e w1 ⟨v1, vals1, rfl, ho1, ha1, hn1⟩
  rw [← hL.out] at ho1
  obtain ⟨A1, c1, rfl, hc1, hm1, _⟩ := own_open ho1
  clear ho1 ha1
  go_wp2
  all_goals go_ret2
  all_goals exact ⟨rfl, hn1⟩
theorem CombAt_ok (n k q : Nat) (w : World) (hn : n ≤ 12) (hk : k ≤ n) (h : q < ch n k) (l : List Nat) (hl : (pickL n 0 k)[q]? = some l) :
    Calls Try.prog 30 #[.int .i64 n, .int .i64 k, .int .i64 q] w fun e w' => ∃ v, e = .returned (.tuple #[v, .int .i64 0]) ∧ SlI w' v l ∧ New w w' := by
  have hd : decide (combP n k) = true := decide_eq_true (by unfold combP; omega)
  have hpk : Hid (∀ w, Calls Try.prog 51 #[.int .i64 0, .int .i64 n, .int .i64 k] w (PickP n 0 k w)) := fun w => picks_ok n 0 k n (by omega) hn (by omega) w
  have hlen := pickL_ch n 0 k hn (by omega)
  obtain ⟨L, hL⟩ : ∃ L, Hid (L = pickL n 0 k) := ⟨_, (rfl : _ = _)⟩
  rw [← hL.out] at hlen hl
  rw [← hlen] at h
  clear hlen
  have hLs : L.length ≤ 4096 := by
    rw [hL.out]; exact Nat.le_trans (pickL_size n 0 k) (Nat.pow_le_pow_right (by omega) hn)
  have hl1 := Lib.hid hl
  clear hl
  have i0 : (0 : Int) ≤ (q : Int) := by omega
  have i1 : (q : Int) < (L.length : Int) := by omega
  go_enter Try.func30, Try.ntmps30
  go_wp2_with fail
  refine (pickRange_any _ _ _).mono ?_
  rw [hd]
  rintro e w1 ⟨rfl, rfl⟩
  go_wp2_with fail
  refine (hpk.out _).mono ?_
  rintro e w1 ⟨v1, vals1, rfl, ho1, ha1, hn1⟩
  rw [← hL.out] at ho1 ha1
  have hvl : vals1.length = L.length := ha1.1
  have hpv : vals1[q]? = some (vals1[q]'(by omega)) := List.getElem?_eq_getElem (by omega)
  obtain ⟨g1, c1, rfl, _, hg1⟩ := ho1.form (by omega)
  have hSl := ha1.2 q _ _ hpv hl1.out
  obtain ⟨bp, gp, cp, hpe, hpo⟩ := id hSl
  have c0 : w1.cell? ⟨g1, q, none⟩ = some (vals1[q]'(by omega)) := by
    rw [ho1.cellAt q (by omega)]; exact hpv
  rw [hpe] at c0 hSl
  have hSl1 := Lib.hid hSl
  clear ho1 ha1 hpv hpe hpo hSl
  go_wp2
  go_ret2
  exact ⟨_, rfl, hSl1.out, hn1⟩
theorem nil_rdI (w : World) (Z : Nat → Int) : RdI .i64 w none 0 Z := ⟨Nat.zero_le _, fun h => absurd h (Nat.lt_irrefl 0)⟩
theorem own_rdN {w : World} {base : Nat} {v : Value} {l : List Nat} (h : w.ownsRow base 3 1 v l.length (l.map encN)) :
    ∃ A c, v = .slice A l.length c ∧ RdI .i64 w A l.length (fun i => (l.getD i 0 : Nat)) := by
  obtain ⟨A, c, rfl, h1, h2, h3, h4⟩ := own_open h
  refine ⟨A, c, rfl, by omega, fun h0 => ?_⟩
  obtain ⟨g, rfl, _, hg⟩ := h3 h0
  refine ⟨g, 0, rfl, hg, fun i hi => ?_⟩
  have := h4 g rfl i (.int .i64 (l.getD i 0 : Nat)) (by simp [hi, encN])
  simpa using this
theorem sameInts_eq (A B : Option Addr) (n c d : Nat) (Y : Nat → Int) (w : World) (hY : RdI .i64 w A n Y) (hZ : RdI .i64 w B n Y) :
    Calls Try.prog 31 #[.slice A n c, .slice B n d] w fun e w' => e = .returned (.bool true) ∧ New w w' := by
  have hm := hY.1
  unfold maxLen at hm
  go_enter Try.func31, Try.ntmps31
  go_wp2
  go_loopw [5] (fun k wr => ∃ i : Nat, k = .int .i64 i ∧ i ≤ n ∧ New w wr) (fun k _ => n - (intOf k).toNat)
  case atStart => exact ⟨0, rfl, by omega, New.refl w⟩
  case round =>
    obtain ⟨i, rfl, hi, hnw⟩ := hrel
    by_cases hlt : i < n
    · obtain ⟨b, off, rfl, hb, hcs⟩ := hY.2 (by omega)
      obtain ⟨b', off', rfl, hb', hcs'⟩ := hZ.2 (by omega)
      have c0 := (hnw.cell hb).trans (hcs i hlt)
      have c1 := (hnw.cell hb').trans (hcs' i hlt)
      clear hcs hcs'
      go_wp2
      go_quiet (fail)
      go_wp2
      go_roundw
      case rel => exact ⟨i + 1, by go_num, by omega, hnw.drewN _⟩
      case measure => simp [intOf]; omega
    · have hin : i = n := by omega
      subst hin
      go_wp2
      go_ret
      exact ⟨rfl, hnw⟩
end Go.Proofs.Ytpknpmmcploacaa.comb
