/-
  Contracts: products of columns, one parity column.
-/
import Derived.Test.YtjmjnodaohbpfaaParMay
import Derived.Test.YtjmjnodaohbpfaaGf
import Derived.Test.YtjmjnodaohbpfaaRow
import Derived.BigRegion
import Derived.Deep.WholeRow
import Derived.Great.Walk
namespace Go.Proofs.Ytjmjnodaohbpfaa.par
open Go.ChangeShapes Go.WideShapes Go.ChangeAt Go.RowKit Go.Proofs.Ytjmjnodaohbpfaa.kit Go.Proofs.Ytjmjnodaohbpfaa.gf Go.Deep
set_option linter.unusedVariables false
attribute [local irreducible] mul expT pw

/-- the factor of a data column in a parity column -/
def fcN (j i : Nat) : Nat := expT ((i * j) % 255)
theorem fcN_lt (j i : Nat) : fcN j i < 256 := (exp_facts _ (Nat.mod_lt _ (by omega))).1
attribute [local irreducible] fcN
theorem factor_any (j i : Nat) (hj : j ≤ 100) (hi : i ≤ 100) (w : World) :
    Calls Try.prog 48 #[.int .i64 j, .int .i64 i] w fun e w' => e = .returned (.int .i64 (fcN j i : Nat)) ∧ New w w' := by
  have hb : i * j ≤ 100 * 100 := Nat.mul_le_mul hi hj
  obtain ⟨p, hp⟩ : ∃ p, Hid (i * j = p) := ⟨_, (rfl : _ = _)⟩
  have hpi : (i : Int) * (j : Int) = (p : Int) := by rw [← hp.out, Int.natCast_mul]
  have hv : powV 2 (p : Int) = (fcN j i : Nat) := by
    unfold powV
    rw [if_pos ⟨by unfold isB; omega, by omega⟩]
    show ((pw (2 : Int).toNat (p : Int).toNat : Nat) : Int) = _
    rw [show (2 : Int).toNat = 2 from rfl, Int.toNat_natCast, pw_two, ← hp.out]
    unfold fcN
    rfl
  have hpb : p ≤ 10000 := by rw [← hp.out]; exact hb
  have hv1 := Lib.hid hv
  clear hv hb
  go_enter Try.func48, Try.ntmps48
  go_wp2_with fail
  refine (Exp_any (p : Int) _ (by omega) (by omega)).mono ?_
  rw [hv1.out]
  rintro e w1 ⟨rfl, hn⟩
  go_wp2
  go_ret
  exact ⟨rfl, hn⟩
theorem times_byte (a b : Nat) (ha : a < 256) (hb : b < 256) (w : World) :
    Calls Try.prog 70 #[.int .i64 a, .int .i64 b] w fun e w' => e = .returned (.tuple #[.int .i64 (mul a b : Nat), .int .i64 0]) ∧ New w w' := by
  refine (Mul_any a b w (by omega) (by omega) (by omega) (by omega)).mono ?_
  have h1 : isB (a : Int) := by unfold isB; omega
  have h2 : isB (b : Int) := by unfold isB; omega
  have hv : mulV a b = (mul a b : Nat) := by unfold mulV; rw [if_pos ⟨h1, h2⟩]; simp
  have he : mulE a b = 0 := by unfold mulE; rw [if_pos ⟨h1, h2⟩]
  rw [hv, he]
  exact fun e w' h => h
/-- the table of an element's products -/
def tbl (x : Nat) : Array Value := (Array.range 256).map fun i => .int .u8 (mul x i : Nat)
theorem tbl_size (x : Nat) : (tbl x).size = 256 := by simp [tbl]
theorem tbl_at (x i : Nat) (h : i < 256) : (tbl x)[i]? = some (.int .u8 (mul x i : Nat)) := by simp [tbl, h]
theorem tbl_one (x : Nat) : (tbl x).all (·.oneCell') = true := by
  rw [Array.all_eq_true_iff_forall_mem]
  intro v hv
  simp [tbl] at hv
  obtain ⟨i, _, rfl⟩ := hv
  rfl
attribute [local irreducible] tbl
theorem infoTab : (Try.prog.info? 87).map (·.size) = some 256 := by kernel_rfl
def zTab (x k : Nat) : Nat → Value := fun i => .int .u8 ((if i < k then mul x i else 0 : Nat) : Int)
theorem zero256 : Try.zeroCells87 = Array.replicate 256 (.int .u8 0) := by kernel_rfl
theorem row256 (w : World) (x : Nat) : (w.alloc (.cells Try.zeroCells87 87)).rowIs w.heap.size 87 256 (zTab x 0) := by
  rw [zero256]
  have := World.rowIs_alloc w (Array.replicate 256 (Value.int .u8 0)) 87 (zTab x 0) fun i hi => by
    have : i < 256 := by simpa using hi
    simp [zTab, this]
  simpa using this
theorem zTab_next (x q : Nat) : (fun i => if i = q then Value.int .u8 ((mul x q : Nat) : Int) else zTab x q i) = zTab x (q + 1) := by
  funext i
  unfold zTab
  by_cases hi : i = q
  · subst hi; rw [if_pos rfl, if_pos (by omega)]
  · rw [if_neg hi]
    by_cases h : i < q
    · rw [if_pos h, if_pos (by omega)]
    · rw [if_neg h, if_neg (by omega)]
/-- a row of which all is known, as a block -/
theorem row_blk {w : World} {b : Nat} {t : TypeId} {n : Nat} {f : Nat → Value} {cs : Array Value} (h : w.rowIs b t n f) (hs : cs.size = n) (hc : ∀ i, i < n → cs[i]? = some (f i)) : Blk w b t cs := by
  obtain ⟨c, h1, h2, h3⟩ := h
  have : c = cs := by
    apply Array.ext
    · omega
    · intro i hi1 hi2
      have e1 := h3 i (by omega)
      have e2 := hc i (by omega)
      rw [← e2] at e1
      simpa [hi1, hi2] using e1
  subst this
  exact h1
set_option maxRecDepth 100000 in
theorem table_any (x : Nat) (hx : x < 256) (w : World) :
    Calls Try.prog 61 #[.int .i64 x] w fun e w' => e = .returned (.agg (tbl x)) ∧ New w w' := by
  go_enter Try.func61, Try.ntmps61
  go_wp2
  go_loopw [6] (fun k wr => ∃ q : Nat, k = .int .i64 q ∧ q ≤ 256 ∧ wr.rowIs w.heap.size 87 256 (zTab x q) ∧ New w wr) (fun k _ => 256 - (intOf k).toNat)
  case atStart => exact ⟨0, rfl, by omega, row256 w x, (New.refl w).alloc _⟩
  case round =>
    obtain ⟨q, rfl, hq, hrow, hnw⟩ := hrel
    have hrow1 := Lib.hid hrow
    have hnw1 := Lib.hid hnw
    clear hrow hnw
    by_cases hlt : q < 256
    · have hqi : (q : Int) < 256 := by omega
      have hml : mul x q < 256 := mul_lt x q hx
      go_wp2_with fail
      refine (times_byte x q hx hlt _).mono ?_
      rintro e w1 ⟨rfl, hn1⟩
      have hrw := row_new hrow1.out hn1
      have hc := hrw.cell hlt
      have hf := hrw.frozen q
      have hrw1 := Lib.hid hrw
      have hnw2 := Lib.hid (hnw1.out.next hn1)
      have hnext := Lib.hid (zTab_next x q)
      generalize mul x q = m at *
      clear hrw hn1
      go_wp2
      go_roundw
      case rel => exact ⟨q + 1, by go_num, by omega, by rw [← hnext.out]; exact hrw1.out.set q _, hnw2.out.set (by simp) _⟩
      case measure => simp [intOf]; omega
    · have hq2 : q = 256 := by omega
      have hqi : ¬ (q : Int) < 256 := by omega
      have hqj : decide ((q : Int) < 256) = false := by simp; omega
      have hb : Hid (Blk wr w.heap.size 87 (tbl x)) := row_blk hrow1.out (tbl_size x) fun i hi => by rw [tbl_at x i hi]; unfold zTab; rw [if_pos (by omega)]
      clear hlt hq hq2
      have hu := tbl_one x
      have hi := infoTab
      rw [← tbl_size x] at hi
      obtain ⟨T, hT⟩ : ∃ T, Hid (T = tbl x) := ⟨_, (rfl : _ = _)⟩
      rw [← hT.out] at hb hu hi
      have hu2 := Lib.hid hu
      have hi2 := Lib.hid hi
      have hT1 := Lib.hid (hb.out.row T)
      have hN1 := Lib.hid (hnw1.out.row (g := w.heap.size) (Nat.le_refl _) T)
      have hret : Hid (Ending.returned (.agg T) = .returned (.agg (tbl x))) := congrArg (fun a => Ending.returned (Value.agg a)) hT.out
      clear hu hi
      go_wp2_with (first | (refine wpList_load_row rfl 87 _ rfl w.heap.size rfl 87 T (0, 0) _ hb.out Try.underlying87 rfl hi2.out ?_) | (refine wpList_store_row rfl 87 _ _ rfl w.heap.size T rfl rfl 87 T hb.out hi2.out rfl hu2.out ?_; refine (‹∀ (a : Act) (w : World), Code.wp Try.prog Code.ret _ a w → _› _ _ ?_); refine wp_ret ?_; exact bodyPost_ret (v := .agg T) (results_cell_row Try.results61 _ _ w.heap.size 87 T (0, 0) _ rfl hT1.out Try.underlying87 rfl hi2.out) rfl ⟨hret.out, hN1.out⟩))
theorem u8_xor_nat (a b : Nat) (ha : a < 256) (hb : b < 256) : bits .xor .u8 (a : Int) (b : Int) = ((a ^^^ b : Nat) : Int) := by
  have h1 : (BitVec.ofInt 8 (a : Int)).toNat = a := by rw [BitVec.ofInt_natCast, BitVec.toNat_ofNat]; exact Nat.mod_eq_of_lt (by omega)
  have h2 : (BitVec.ofInt 8 (b : Int)).toNat = b := by rw [BitVec.ofInt_natCast, BitVec.toNat_ofNat]; exact Nat.mod_eq_of_lt (by omega)
  have hx : a ^^^ b < 2 ^ 8 := Nat.xor_lt_two_pow (by omega) (by omega)
  show IntKind.u8.wrap ((BitVec.ofInt 8 (a : Int) ^^^ BitVec.ofInt 8 (b : Int)).toNat : Int) = _
  rw [BitVec.toNat_xor, h1, h2, IntKind.wrap_u8]
  omega
def byV (F : Nat → Nat) : Nat → Value := fun i => .int .u8 (F i : Nat)
/-- a column times an element, added to another as far as place q -/
def mxF (F : Nat → Nat) (Z : Nat → Int) (x q : Nat) : Nat → Nat := fun k => if k < q then F k ^^^ mul x (Z k).toNat else F k
theorem mxF_zero (F : Nat → Nat) (Z : Nat → Int) (x : Nat) : mxF F Z x 0 = F := by funext k; unfold mxF; rw [if_neg (by omega)]
theorem mxF_next (F : Nat → Nat) (Z : Nat → Int) (x q : Nat) : (fun k => if k = q then Value.int .u8 ((F q ^^^ mul x (Z q).toNat : Nat) : Int) else byV (mxF F Z x q) k) = byV (mxF F Z x (q + 1)) := by
  funext k
  unfold byV mxF
  by_cases hk : k = q
  · subst hk; rw [if_pos rfl, if_pos (by omega)]
  · rw [if_neg hk]
    by_cases h : k < q
    · rw [if_pos h, if_pos (by omega)]
    · rw [if_neg h, if_neg (by omega)]
set_option maxRecDepth 100000 in
theorem mix_any (g n c m d x : Nat) (A : Option Addr) (F : Nat → Nat) (Z : Nat → Int) (w : World) (hg : w.rowIs g 5 n (byV F)) (hF : ∀ i, F i < 256) (hA : RdI .u8 w A m Z) (hZ : ∀ i, i < m → 0 ≤ Z i ∧ Z i ≤ 255)
    (hne : 0 < m → ∀ b off, A = some ⟨b, off, none⟩ → b ≠ g) (hm : m ≤ n) (hn : n ≤ maxLen) (hx : x < 256) :
    Calls Try.prog 47 #[.slice (some ⟨g, 0, none⟩) n c, .slice A m d, .int .i64 x] w fun e w' => e = .returned (.tuple #[]) ∧ w'.rowIs g 5 n (byV (mxF F Z x m)) ∧ w.grownBy w' (some g) := by
  unfold maxLen at hn
  have hg0 := Lib.hid hg
  have hA0 := Lib.hid hA
  have hZ0 := Lib.hid hZ
  have hne0 := Lib.hid hne
  have hF0 := Lib.hid hF
  clear hg hA hZ hne hF
  go_enter Try.func47, Try.ntmps47
  go_wp2_with fail
  refine (table_any x hx _).mono ?_
  obtain ⟨T, hT⟩ : ∃ T, Hid (T = tbl x) := ⟨_, (rfl : _ = _)⟩
  rw [← hT.out]
  rintro e w1 ⟨rfl, hn1⟩
  have hg1 := Lib.hid (row_new (row_new hg0.out hn1) ((New.refl w1).alloc (.cells T 87)))
  have hgr := Lib.hid (grown_new (hn1.alloc (.cells T 87)) (some g))
  have hA1 := Lib.hid (hA0.out.new (hn1.alloc (.cells T 87)))
  have hz := Lib.hid (Blk.fresh w1 87 Try.zeroCells87)
  have hzs : Hid ((Try.zeroCells87 : Array Value).size = T.size) := by rw [zero256, hT.out, tbl_size]; exact (by simp : (Array.replicate 256 (Value.int .u8 0)).size = 256)
  have hu : Hid (T.all (·.oneCell') = true) := by rw [hT.out]; exact tbl_one x
  have hi : Hid ((Try.prog.info? 87).map (·.size) = some T.size) := by rw [hT.out, tbl_size]; exact infoTab
  have hset : Hid ((w1.alloc (.cells Try.zeroCells87 87)).setRow w1.heap.size T = w1.alloc (.cells T 87)) := World.setRow_alloc_new ..
  have htb := Lib.hid (Blk.fresh w1 87 T)
  clear hn1
  go_wp2_with (refine wpList_store_row rfl 87 _ _ rfl w1.heap.size T rfl rfl 87 Try.zeroCells87 hz.out hi.out hzs.out hu.out ?_; rw [hset.out]; generalize w1.alloc (.cells T 87) = w2 at *)
  have hN2 := Lib.hid htb.out.lt
  have hgl : g < w2.heap.size := hg1.out.lt
  have hgt : Hid (g ≠ w1.heap.size) := by
    intro he
    have h1 := hg1.out.cell (i := 0)
    obtain ⟨cs, h2, _, _⟩ := hg1.out
    have h3 := htb.out
    unfold Blk at h3
    rw [← he, h2] at h3
    injection h3 with h3
    injection h3 with _ h3 _
    exact absurd h3 (by decide)
  clear hset hz
  go_loopw [13] (fun k wr => ∃ q : Nat, k = .int .i64 q ∧ q ≤ m ∧ wr.rowIs g 5 n (byV (mxF F Z x q)) ∧ Blk wr w1.heap.size 87 T ∧ w2.grownBy wr (some g)) (fun k _ => m - (intOf k).toNat)
  case atStart => exact ⟨0, rfl, by omega, by rw [mxF_zero]; exact hg1.out, htb.out, grown_refl _ _⟩
  case round =>
    obtain ⟨q, rfl, hq, hrow, htab, hgw⟩ := hrel
    by_cases hlt : q < m
    · obtain ⟨b, off, rfl, hb, hcs⟩ := hA1.out.2 (by omega)
      have hbg := hne0.out (by omega) b off rfl
      have ci := (hgw.cell_far ⟨b, off + q, none⟩ hb (by simp [hbg])).trans (hcs q hlt)
      obtain ⟨y, hy⟩ : ∃ y : Nat, Z q = y ∧ y < 256 := ⟨(Z q).toNat, by have := hZ0.out q hlt; omega, by have := hZ0.out q hlt; omega⟩
      rw [hy.1] at ci
      have hyl := hy.2
      have hnext := Lib.hid (mxF_next F Z x q)
      rw [hy.1, Int.toNat_natCast] at hnext
      have hrow1 := Lib.hid hrow
      have htab1 := Lib.hid htab
      have hgw1 := Lib.hid hgw
      have d0 := hrow.cell (i := q) (by omega)
      have d1 : wr.cell? ⟨w1.heap.size, y, none⟩ = some (.int .u8 (mul x y : Nat)) := by
        rw [htab.cell y, hT.out]; exact tbl_at x y hyl
      have hfq : byV (mxF F Z x q) q = .int .u8 (F q : Nat) := by unfold byV mxF; rw [if_neg (by omega)]
      rw [hfq] at d0
      have hml : mul x y < 256 := mul_lt x y hx
      have hFl := hF0.out q
      have hxo : bits .xor .u8 ((F q : Nat) : Int) ((mul x y : Nat) : Int) = ((F q ^^^ mul x y : Nat) : Int) := u8_xor_nat _ _ hFl hml
      have e0 : (0 : Int) ≤ (q : Int) := by omega
      have e1 : (q : Int) < (n : Int) := by omega
      have e2 : (q : Int) < (m : Int) := by omega
      have e3 : (y : Int) < 256 := by omega
      have e4 : (0 : Int) ≤ (y : Int) := by omega
      clear hrow htab hgw hcs hy hfq
      generalize F q = u at *
      generalize mul x y = v at *
      have k0 := NewW.keep d0
      have k1 := NewW.keep d1
      clear d0 d1
      go_wp2
      (refine wp_region_new_tail 9 (by kernel_rfl) (by kernel_rfl) ?_; simp only [List.take_succ_cons, List.take_zero, List.drop_succ_cons, List.drop_zero]; (repeat (first | go_big_quiet_step (fail) | quiet_step (fail))); refine wpQuiet_nil ?_; rintro W5 ⟨⟨_, hn_W5⟩, rfl⟩)
      have hrow5 := row_new hrow1.out hn_W5
      have hf5 := hrow5.frozen q
      have hc5 := hrow5.cell (i := q) (by omega)
      have hrow6 := Lib.hid hrow5
      have htab6 := Lib.hid (htab1.out.new hn_W5)
      have hgw6 := Lib.hid (hgw1.out.trans (grown_new hn_W5 (some g)))
      clear hrow5 hn_W5 k0 k1
      go_wp2
      go_roundw
      case rel => exact ⟨q + 1, by go_num, by omega, by rw [← hnext.out]; exact hrow6.out.set q _, htab6.out.far (fun h => hgt.out h.symm) _, hgw6.out.trans (grown_set _ _ _ _)⟩
      case measure => simp [intOf]; omega
    · have hqm : q = m := by omega
      subst hqm
      have hrow1 := Lib.hid hrow
      have hg6 := Lib.hid (hgr.out.trans hgw)
      clear hrow htab hgw
      go_wp2
      exact Great.bodyPost_end0 rfl rfl ⟨rfl, hrow1.out, hg6.out⟩
/-- one place of a parity column -/
def enN (j : Nat) (M : Nat → Nat → Int) : Nat → Nat → Nat
  | 0, _ => 0
  | i + 1, k => enN j M i k ^^^ mul (fcN j i) (M i k).toNat
theorem enN_lt (j : Nat) (M : Nat → Nat → Int) : ∀ n k, enN j M n k < 256
  | 0, _ => by unfold enN; omega
  | i + 1, k => by
    unfold enN
    exact xor_lt8 (enN_lt j M i k) (mul_lt _ _ (fcN_lt j i))
theorem infoU8 : (Try.prog.info? 5).map (fun i => (i.zero, i.size, i.bytes)) = some (some (.int .u8 0), 1, 1) := by kernel_rfl
theorem encode_any (A : Option Addr) (n c l j : Nat) (R : Nat → Option Addr) (L C : Nat → Nat) (M : Nat → Nat → Int) (w : World) (hM : RdM .u8 w A n R L C M) (hb : ∀ i, i < n → ∀ k, k < L i → 0 ≤ M i k ∧ M i k ≤ 255)
    (hL : ∀ i, i < n → L i = l) (hn1 : 1 ≤ n) (hn : n ≤ 12) (hl : l ≤ 4096) (hj : j ≤ 3) :
    Calls Try.prog 24 #[.slice A n c, .int .i64 j] w fun e w' => ∃ g, e = .returned (.slice (some ⟨g, 0, none⟩) l l) ∧ w'.rowIs g 5 l (byV (enN j M n)) ∧ New w w' ∧ w.heap.size ≤ g := by
  obtain ⟨b, off, rfl, hb1, hcs⟩ := hM.2.1 (by omega)
  have c0 := hcs 0 (by omega)
  rw [hL 0 (by omega), Nat.add_zero] at c0
  have e0 : (0 : Int) < (n : Int) := by omega
  have e1 : 0 < n := by omega
  have hM0 := Lib.hid hM
  have hb0 := Lib.hid hb
  have hL0 := Lib.hid hL
  have hcs0 := Lib.hid hcs
  have hmk := run_make_row' (P := Try.prog) 32 5 (.int .u8 0) 1 Try.underlying32 infoU8 rfl .i64 .i64 l (by omega) (by omega)
  have hrow0 : Hid ((w.alloc (.cells (madeCells #[.int .u8 0] l) 5)).rowIs w.heap.size 5 l (byV (enN j M 0))) := (World.rowIs_made w (.int .u8 0) l 5).congr fun i _ => by simp [byV, enN]
  clear hM hb hL hcs
  go_enter Try.func24, Try.ntmps24
  go_wp2
  go_loopw [15] (fun k wr => ∃ i : Nat, k = .int .i64 i ∧ i ≤ n ∧ wr.rowIs w.heap.size 5 l (byV (enN j M i)) ∧ New w wr) (fun k _ => n - (intOf k).toNat)
  case atStart => exact ⟨0, rfl, by omega, hrow0.out, (New.refl w).alloc _⟩
  case round =>
    obtain ⟨i, rfl, hi, hrow, hnw⟩ := hrel
    by_cases hlt : i < n
    · have ci := (hnw.cell hb1).trans (hcs0.out i hlt)
      rw [hL0.out i hlt] at ci
      have hRi : Hid (RdI .u8 w (R i) l (M i)) := by have := (hM0.out.2.2 i hlt).1; rw [hL0.out i hlt] at this; exact this
      have hrow1 := Lib.hid hrow
      have hnw1 := Lib.hid hnw
      clear hrow hnw
      go_wp2_with fail
      refine (factor_any j i (by omega) (by omega) _).mono ?_
      rintro e w1 ⟨rfl, hn1⟩
      have hrow2 := Lib.hid (row_new hrow1.out hn1)
      have hnw2 := Lib.hid (hnw1.out.next hn1)
      clear hn1 ci
      go_wp2_with fail
      refine (mix_any w.heap.size l l l (C i) (fcN j i) (R i) (enN j M i) (M i) _ hrow2.out (fun k => enN_lt j M i k) (hRi.out.new hnw2.out) (fun k hk => hb0.out i hlt k (by rw [hL0.out i hlt]; exact hk)) (fun h0 b' off' hA => by
        obtain ⟨b2, off2, hA2, hb2, _⟩ := hRi.out.2 h0
        rw [hA] at hA2
        injection hA2 with hA2
        injection hA2 with h1 _ _
        omega) (Nat.le_refl _) (by unfold maxLen; omega) (fcN_lt j i)).mono ?_
      rintro e w2 ⟨rfl, hrow3, hg3⟩
      have hrow4 : Hid (w2.rowIs w.heap.size 5 l (byV (enN j M (i + 1)))) := hrow3.congr fun k hk => by unfold byV mxF; rw [if_pos hk]; rfl
      have hnw4 := Lib.hid (hnw2.out.grown1 hg3 (Nat.le_refl _))
      clear hrow3 hg3
      go_wp2
      go_roundw
      case rel => exact ⟨i + 1, by go_num, by omega, hrow4.out, hnw4.out⟩
      case measure => simp [intOf]; omega
    · have hin : i = n := by omega
      subst hin
      have hrow1 := Lib.hid hrow
      have hnw1 := Lib.hid hnw
      clear hrow hnw
      go_wp2
      go_ret
      exact ⟨_, rfl, hrow1.out, hnw1.out, Nat.le_refl _⟩
end Go.Proofs.Ytjmjnodaohbpfaa.par
