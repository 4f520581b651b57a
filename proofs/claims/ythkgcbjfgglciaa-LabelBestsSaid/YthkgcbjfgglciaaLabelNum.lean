/-
  Contracts: numbers read out of bytes, the lowest first.
-/
import Derived.Test.YthkgcbjfgglciaaLabelRef
namespace Go.Proofs.Ythkgcbjfgglciaa.label
open Go.ChangeShapes Go.WideShapes Go.ChangeAt Go.RowKit Go.Proofs.Ythkgcbjfgglciaa.kit Go.Proofs.Ythkgcbjfgglciaa.flet Go.Deep
set_option linter.unusedVariables false

/-- the number of s bytes, of which the t highest have been read -/
def numT (B : Nat → Nat) (s : Nat) : Nat → Nat
  | 0 => 0
  | t + 1 => numT B s t * 256 + B (s - 1 - t)
theorem numT_lt {B : Nat → Nat} {s : Nat} (hB : ∀ i, i < s → B i < 256) : ∀ t, t ≤ s → numT B s t < 256 ^ t
  | 0, _ => by simp [numT]
  | t + 1, h => by
    have h1 := numT_lt hB t (by omega)
    have h2 := hB (s - 1 - t) (by omega)
    unfold numT
    rw [Nat.pow_succ]
    omega
def numN (B : Nat → Nat) (s : Nat) : Nat := numT B s s
theorem pow_le {t : Nat} (h : t ≤ 7) : 256 ^ t ≤ 72057594037927936 := Nat.pow_le_pow_right (by omega) h
/-- the lowest byte first -/
theorem numT_low (B : Nat → Nat) (s : Nat) : ∀ t, t ≤ s → numT B (s + 1) t = numT (fun i => B (i + 1)) s t
  | 0, _ => rfl
  | t + 1, h => by
    unfold numT
    rw [numT_low B s t (by omega), show s + 1 - 1 - t = s - 1 - t + 1 by omega]
theorem numN_succ (B : Nat → Nat) (s : Nat) : numN B (s + 1) = B 0 + 256 * numN (fun i => B (i + 1)) s := by
  unfold numN
  show numT B (s + 1) s * 256 + B (s + 1 - 1 - s) = _
  rw [numT_low B s s (Nat.le_refl _), show s + 1 - 1 - s = 0 by omega]
  omega
theorem numN_zero (B : Nat → Nat) : numN B 0 = 0 := rfl
theorem shrI_succ (x : Int) : ∀ k, shrI x (k + 1) = shrI (x / 256) k
  | 0 => rfl
  | k + 1 => by
    show shrI x (k + 1) / 256 = _
    rw [shrI_succ x k]
    rfl
theorem lowB_succ (x : Int) (k : Nat) : lowB x (k + 1) = lowB (x / 256) k := by unfold lowB; rw [shrI_succ]
/-- the bytes of a number that was read -/
theorem low_num : ∀ (s q : Nat) (B : Nat → Nat), (∀ i, i < s → B i < 256) → q < s → lowB (numN B s : Nat) q = B q
  | 0, q, _, _, h => absurd h (Nat.not_lt_zero q)
  | s + 1, 0, B, hB, _ => by
    have := hB 0 (by omega)
    unfold lowB shrI
    rw [numN_succ]
    omega
  | s + 1, q + 1, B, hB, h => by
    have h0 := hB 0 (by omega)
    rw [lowB_succ]
    have : (((numN B (s + 1) : Nat) : Int) / 256) = ((numN (fun i => B (i + 1)) s : Nat) : Int) := by
      rw [numN_succ]; omega
    rw [this]
    exact low_num s q (fun i => B (i + 1)) (fun i hi => hB (i + 1) (by omega)) (by omega)
theorem lowB_mod (x : Int) (h1 : -9223372036854775808 ≤ x) (h2 : x ≤ 9223372036854775807) (q : Nat) (hq : q < 8) : lowB (x % 18446744073709551616) q = lowB x q := by
  unfold lowB
  rw [shrI_u x h1 h2 q hq]
theorem num_low8 (x : Int) (h1 : -9223372036854775808 ≤ x) (h2 : x ≤ 9223372036854775807) : wrap64 (numN (lowB x) 8 : Nat) = x := by
  have e : ∀ (y : Int) (s : Nat), ((numN (lowB y) (s + 1) : Nat) : Int) = y % 256 + 256 * ((numN (lowB (y / 256)) s : Nat) : Int) := by
    intro y s
    rw [numN_succ]
    have h0 := lowB_int y 0
    have hf : (fun i => lowB y (i + 1)) = lowB (y / 256) := funext fun i => lowB_succ y i
    rw [hf]
    unfold shrI at h0
    omega
  have h8 : ((numN (lowB x) 8 : Nat) : Int) = x % 18446744073709551616 := by
    rw [e, e, e, e, e, e, e, e, numN_zero]
    omega
  rw [h8]
  unfold wrap64
  omega
/-- a number of eight bytes is read to be so just when these are its bytes -/
theorem num_iff (x : Int) (B : Nat → Nat) (hB : ∀ i, i < 8 → B i < 256) (h1 : -9223372036854775808 ≤ x) (h2 : x ≤ 9223372036854775807) : x = wrap64 (numN B 8 : Nat) ↔ ∀ q, q < 8 → lowB x q = B q := by
  have hlt : numN B 8 < 18446744073709551616 := numT_lt hB 8 (Nat.le_refl _)
  constructor
  · rintro hx q hq
    have hm : x % 18446744073709551616 = ((numN B 8 : Nat) : Int) := by rw [hx]; unfold wrap64; omega
    rw [← lowB_mod x h1 h2 q hq, hm]
    exact low_num 8 q B hB hq
  · intro h
    have he : numN (lowB x) 8 = numN B 8 := by
      have : ∀ (s : Nat) (F G : Nat → Nat), (∀ q, q < s → F q = G q) → numN F s = numN G s := by
        intro s
        induction s with
        | zero => intro F G _; rfl
        | succ s ih => intro F G hh; rw [numN_succ, numN_succ, hh 0 (by omega), ih _ _ fun q hq => hh (q + 1) (by omega)]
      exact this 8 _ _ h
    rw [← he, num_low8 x h1 h2]
theorem wrap_shift (m b : Nat) (hm : m < 72057594037927936) (hb : b < 256) : bits .or .i64 (wrap64 ((m : Int) * 256)) (b : Int) = wrap64 ((m * 256 + b : Nat) : Int) := by
  have h1 : (BitVec.ofInt 64 (wrap64 ((m : Int) * 256))).toNat = m * 256 := by
    rw [BitVec.toNat_ofInt]; unfold wrap64; omega
  have h2 : (BitVec.ofInt 64 (b : Int)).toNat = b := ofInt_i64 b (by omega)
  have h3 : m * 256 ||| b = m * 256 + b := nat_join 8 (m * 256) b (Nat.mul_mod_left _ _) (by omega)
  show IntKind.i64.wrap ((BitVec.ofInt 64 (wrap64 ((m : Int) * 256)) ||| BitVec.ofInt 64 (b : Int)).toNat : Int) = _
  rw [BitVec.toNat_or, h1, h2, h3]
  exact IntWalk.i64_left _
set_option maxRecDepth 100000 in
theorem number_any (br s n c : Nat) (A : Option Addr) (B : Nat → Nat) (w : World) (hb : Blk w br 78 #[.slice A n c]) (hr : RdB w A n B) (hs : s ≤ n) (h0 : 0 < s) (h8 : s ≤ 8) (hc : n ≤ c) :
    Calls Try.prog 60 #[.pointer (some ⟨br, 0, none⟩), .int .i64 s] w fun e w' => e = .returned (.int .i64 (wrap64 (numN B s : Nat))) ∧ (∃ A' c', Blk w' br 78 #[.slice A' (n - s) c'] ∧ (∀ w0, RdB w0 A n B → RdB w0 A' (n - s) (fun i => B (s + i))) ∧ n ≤ c' + s) ∧ w.grownBy w' (some br) := by
  have hm := hr.1
  unfold maxLen at hm
  obtain ⟨b, off, rfl, hbb, hcs⟩ := hr.2.2 (by omega)
  have c0 := hb.cell 0
  simp at c0
  have hne : b ≠ br := by
    rintro rfl
    have h1 := hcs 0 (by omega)
    rw [hb.cell] at h1
    match hoff : off + 0 with
    | 0 => rw [hoff] at h1; simp at h1
    | k + 1 => rw [hoff] at h1; simp at h1
  have hcs0 := Lib.hid hcs
  have hlt0 := Lib.hid hr.2.1
  have hf0 := hb.frozen 0
  have hb0 := Lib.hid hb
  have hr0 := Lib.hid hr
  clear hcs hb hr
  go_enter Try.func60, Try.ntmps60
  go_wp2
  go_loop [5, 6] (fun v c => ∃ t : Nat, t ≤ s ∧ c = .int .i64 ((s : Int) - 1 - t) ∧ v = .int .i64 (wrap64 (numT B s t : Nat))) (fun _ c => (intOf c + 1).toNat)
  case atStart => exact ⟨0, by omega, intv (by omega), intv (IntWalk.wrap64_in _ (by simp)).symm⟩
  case round =>
    obtain ⟨t, ht, rfl, rfl⟩ := hrel
    by_cases hlt : t < s
    · have ci := hcs0.out (s - 1 - t) (by omega)
      have hbl := hlt0.out (s - 1 - t) (by omega)
      have hml := numT_lt (s := s) (fun i hi => hlt0.out i (by omega)) t (by omega)
      have hpl := pow_le (t := t) (by omega)
      have hstep : Hid (numT B s (t + 1) = numT B s t * 256 + B (s - 1 - t)) := rfl
      generalize numT B s t = m at *
      generalize B (s - 1 - t) = y at *
      obtain ⟨u, hu⟩ : ∃ u : Nat, Hid ((s : Int) - 1 - t = u ∧ s - 1 - t = u) := ⟨s - 1 - t, by constructor <;> omega⟩
      rw [hu.out.2] at ci
      rw [hu.out.1]
      have hul : u < n := by have := hu.out.2; omega
      have hml2 : m < 72057594037927936 := by omega
      clear hml hpl
      have hwm : wrap64 (wrap64 (m : Int) * 256) = wrap64 ((m : Int) * 256) := by rw [IntWalk.wrap64_in (m : Int) (by omega)]
      have hws := Lib.hid (wrap_shift m y hml2 hbl)
      go_wp2
      go_round
      case rel =>
        refine ⟨t + 1, by omega, intv (by have := hu.out.1; omega), intv ?_⟩
        rw [hws.out, hstep.out]
      case measure => simp [intOf]
    · have hts : t = s := by omega
      subst hts
      have hneg : (t : Int) - 1 - t = -1 := by omega
      have hG : Hid (∀ w0, RdB w0 (some ⟨b, off, none⟩) n B → RdB w0 (if c = t then some ⟨b, off, none⟩ else some ⟨b, off + t, none⟩) (n - t) (fun i => B (t + i))) := fun w0 h => by
        have := h.cut (c := c) (k := t) hs hc
        simp only [Option.map_some, add_cell] at this
        exact this
      have hpost : ∀ A' : Option Addr, (if c = t then some (⟨b, off, none⟩ : Addr) else some ⟨b, off + t, none⟩) = A' → Hid (∃ A2 c2, Blk (w.setCell ⟨br, 0, none⟩ (.slice A' (n - t) (c - t))) br 78 #[.slice A2 (n - t) c2] ∧ (∀ w0, RdB w0 (some ⟨b, off, none⟩) n B → RdB w0 A2 (n - t) (fun i => B (t + i))) ∧ n ≤ c2 + t) := fun A' hA =>
        ⟨A', c - t, by simpa using hb0.out.put 0 _, hA ▸ hG.out, by omega⟩
      clear hG
      by_cases hct : c = t
      · have hp := hpost _ (if_pos hct)
        have h0 : c - t = 0 := by omega
        rw [h0] at hp
        clear hpost h0
        go_wp2
        go_ret
        exact ⟨rfl, hp.out, grown_set _ _ _ _⟩
      · have hp := hpost _ (if_neg hct)
        clear hpost
        go_wp2
        go_ret
        exact ⟨rfl, hp.out, grown_set _ _ _ _⟩
set_option maxRecDepth 100000 in
theorem fromLow_any (n c : Nat) (A : Option Addr) (B : Nat → Nat) (w : World) (hr : RdB w A n B) (h8 : n ≤ 8) (hc : n ≤ c) :
    Calls Try.prog 64 #[.slice A n c] w fun e w' => e = .returned (.int .i64 (wrap64 (numN B n : Nat))) ∧ w = w' := by
  have hr0 := Lib.hid hr
  clear hr
  go_enter Try.func64, Try.ntmps64
  go_wp2
  go_loop [3, 4] (fun v c => ∃ t : Nat, t ≤ n ∧ c = .int .i64 ((n : Int) - 1 - t) ∧ v = .int .u64 (numT B n t : Nat)) (fun _ c => (intOf c + 1).toNat)
  case atStart => exact ⟨0, by omega, intv (by omega), rfl⟩
  case round =>
    obtain ⟨t, ht, rfl, rfl⟩ := hrel
    by_cases hlt : t < n
    · obtain ⟨b, off, rfl, hbb, hcs⟩ := hr0.out.2.2 (by omega)
      have ci := hcs (n - 1 - t) (by omega)
      have hbl := hr0.out.2.1 (n - 1 - t) (by omega)
      have hml := numT_lt (s := n) (fun i hi => hr0.out.2.1 i hi) t (by omega)
      have hpl := pow_le (t := t) (by omega)
      have hstep : Hid (numT B n (t + 1) = numT B n t * 256 + B (n - 1 - t)) := rfl
      clear hcs
      generalize numT B n t = m at *
      generalize B (n - 1 - t) = y at *
      obtain ⟨u, hu⟩ : ∃ u : Nat, Hid ((n : Int) - 1 - t = u ∧ n - 1 - t = u) := ⟨n - 1 - t, by constructor <;> omega⟩
      rw [hu.out.2] at ci
      rw [hu.out.1]
      have hul : u < n := by have := hu.out.2; omega
      have hml2 : m < 72057594037927936 := by omega
      clear hml hpl
      go_wp2
      go_round
      case rel => exact ⟨t + 1, by omega, intv (by have := hu.out.1; omega), by rw [hstep.out]; simp⟩
      case measure => simp [intOf]
    · have hts : t = n := by omega
      subst hts
      have hneg : (t : Int) - 1 - t = -1 := by omega
      have hmod : Hid (IntKind.i64.wrap (numT B t t : Nat) = wrap64 (numN B t : Nat)) := IntWalk.i64_left _
      go_wp2
      go_ret
      exact ⟨rfl, rfl⟩
theorem rdB_sub {w : World} {A : Option Addr} {n : Nat} {B : Nat → Nat} (h : RdB w A n B) {lo m : Nat} (hm : lo + m ≤ n) (h0 : 0 < m) : ∃ b off, A = some ⟨b, off, none⟩ ∧ RdB w (some ⟨b, off + lo, none⟩) m (fun i => B (lo + i)) := by
  obtain ⟨b, off, rfl, hb, hcs⟩ := h.2.2 (by omega)
  refine ⟨b, off, rfl, Nat.le_trans (by omega) h.1, fun i hi => h.2.1 _ (by omega), fun _ => ⟨b, off + lo, rfl, hb, fun i hi => ?_⟩⟩
  rw [Nat.add_assoc]
  exact hcs (lo + i) (by omega)
theorem rdB_head {w : World} {A : Option Addr} {n : Nat} {B : Nat → Nat} (h : RdB w A n B) {m : Nat} (hm : m ≤ n) : RdB w A m B :=
  ⟨Nat.le_trans hm h.1, fun i hi => h.2.1 i (by omega), fun h0 => by
    obtain ⟨b, off, hA, hb, hcs⟩ := h.2.2 (by omega)
    exact ⟨b, off, hA, hb, fun i hi => hcs i (by omega)⟩⟩
theorem four_any (g k c : Nat) (A : Option Addr) (B : Nat → Nat) (w : World) (h1 : w.cell? ⟨g, 0, none⟩ = some (.slice A 128 c)) (hr : RdB w A 128 B) (hk : k < 9) (hc : 128 ≤ c) (hcm : c ≤ maxLen) :
    Calls Try.prog 63 #[.int .i64 k, .pointer (some ⟨g, 0, none⟩)] w fun e w' => e = .returned (.int .i64 (numN (fun i => B (4 * k + i)) 4 : Nat)) ∧ w = w' := by
  unfold maxLen at hcm
  obtain ⟨b, off, rfl, hsub⟩ := rdB_sub hr (lo := 4 * k) (m := 4) (by omega) (by omega)
  have hne : ¬ c = 4 * k := by omega
  have hi : (4 : Int) * k + 4 ≤ c := by omega
  have hlt : numN (fun i => B (4 * k + i)) 4 < 4294967296 := numT_lt (B := fun i => B (4 * k + i)) (s := 4) hsub.2.1 4 (Nat.le_refl _)
  have hw : Hid (wrap64 (numN (fun i => B (4 * k + i)) 4 : Nat) = (numN (fun i => B (4 * k + i)) 4 : Nat)) := IntWalk.wrap64_in _ (by omega)
  have e1 : (4 * (k : Int)).toNat = 4 * k := by omega
  clear hlt
  go_enter Try.func63, Try.ntmps63
  go_wp2_with fail
  refine (fromLow_any 4 (c - 4 * k) _ _ _ hsub (by omega) (by omega)).mono ?_
  rw [hw.out]
  rintro e w1 ⟨rfl, rfl⟩
  go_wp2
  go_ret
  exact ⟨rfl, rfl⟩

set_option maxRecDepth 100000 in
theorem eight_any (g k c : Nat) (A : Option Addr) (B : Nat → Nat) (w : World) (h1 : w.cell? ⟨g, 0, none⟩ = some (.slice A 128 c)) (hr : RdB w A 128 B) (hk : k < 4) (hc : 128 ≤ c) (hcm : c ≤ maxLen) :
    Calls Try.prog 65 #[.int .i64 k, .pointer (some ⟨g, 0, none⟩)] w fun e w' => e = .returned (.int .i64 (wrap64 (numN (fun i => B (36 + 8 * k + i)) 8 : Nat))) ∧ w = w' := by
  unfold maxLen at hcm
  obtain ⟨b, off, rfl, hsub⟩ := rdB_sub hr (lo := 36 + 8 * k) (m := 8) (by omega) (by omega)
  have hne : ¬ c = 36 + 8 * k := by omega
  have hi : (44 : Int) + 8 * k ≤ c := by omega
  have hi2 : (36 : Int) + 8 * k ≤ 44 + 8 * k := by omega
  have e1 : (36 + 8 * (k : Int)).toNat = 36 + 8 * k := by omega
  have e2 : (44 + 8 * (k : Int)).toNat = 44 + 8 * k := by omega
  have e3 : 44 + 8 * k - (36 + 8 * k) = 8 := by omega
  go_enter Try.func65, Try.ntmps65
  go_wp2_with fail
  refine (fromLow_any 8 (c - (36 + 8 * k)) _ (fun i => B (36 + 8 * k + i)) _ hsub (by omega) (by omega)).mono ?_
  rintro e w1 ⟨rfl, rfl⟩
  go_wp2
  go_ret
  exact ⟨rfl, rfl⟩

end Go.Proofs.Ythkgcbjfgglciaa.label
