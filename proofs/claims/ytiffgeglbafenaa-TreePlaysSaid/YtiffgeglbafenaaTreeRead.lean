/-
  Contract of a node's read.
-/
import Derived.Test.YtiffgeglbafenaaTreeCut
namespace Go.Proofs.Ytiffgeglbafenaa.tree
open Go.ChangeShapes Go.WideShapes Go.ChangeAt Go.RowKit Go.Proofs.Ytiffgeglbafenaa.kit Go.Deep
set_option linter.unusedVariables false
set_option maxRecDepth 100000
/-- bytes that are read out of a stretch -/
def outF (base off n : Nat) (f h : Nat → Nat) (k : Nat) : Nat := if base ≤ off + k ∧ off + k < base + n then f (off + k - base) else h k
abbrev byteV (h : Nat → Nat) (k : Nat) : Value := .int .u8 (h k : Nat)
/-- what read leaves: the row that is written, nothing else changed -/
def ReadP (ob cnt : Nat) (h' : Nat → Nat) (w : World) (e : Ending) (w' : World) : Prop :=
  (∃ v, e = .returned v) ∧ w'.rowIs ob 5 cnt (byteV h') ∧ w.grownBy w' (some ob)
def ReadL (L : Nat) : Prop := ∀ (base off ob cnt cap : Nat) (v : Value) (P : Nat → Prop) (c : Nat) (f h : Nat → Nat) (w : World), Tr w P c L v f → w.rowIs ob 5 cnt (byteV h) → base + roomN L ≤ 4096 → off ≤ 4096 → cnt ≤ 4096 → (∀ k, k < cnt → base ≤ off + k → off + k < base + roomN L → h k = 0) →
    Calls Try.prog 36 #[v, .int .i64 base, .int .i64 off, .slice (some ⟨ob, 0, none⟩) cnt cap] w (ReadP ob cnt (outF base off (roomN L) f h) w)
theorem read_nil (L base off ob cnt cap : Nat) (f h : Nat → Nat) (w : World) (hz : ∀ i, i < roomN L → f i = 0) (hr : w.rowIs ob 5 cnt (byteV h)) (h0 : ∀ k, k < cnt → base ≤ off + k → off + k < base + roomN L → h k = 0) :
    Calls Try.prog 36 #[.pointer none, .int .i64 base, .int .i64 off, .slice (some ⟨ob, 0, none⟩) cnt cap] w (ReadP ob cnt (outF base off (roomN L) f h) w) := by
  have hfin : Hid (w.rowIs ob 5 cnt (byteV (outF base off (roomN L) f h)) ∧ w.grownBy w (some ob)) := ⟨hr.congr fun k hk => by
    unfold byteV outF
    split
    · rename_i h1
      rw [h0 k hk h1.1 h1.2, hz _ (by omega)]
    · rfl, grown_refl w _⟩
  clear hr h0 hz
  go_enter Try.func36, Try.ntmps36
  go_wp2
  exact Great.bodyPost_end0 rfl rfl ⟨⟨_, rfl⟩, hfin.out⟩
theorem read_off (L base off ob cnt cap g b : Nat) (F : Nat → Value) (f h : Nat → Nat) (w : World) (hL : L ≤ 3) (hN : Nd w g F b L) (hr : w.rowIs ob 5 cnt (byteV h)) (hb : base + roomN L ≤ 4096) (ho : off ≤ 4096) (hc : cnt ≤ 4096) (hov : base + roomN L ≤ off ∨ off + cnt ≤ base) :
    Calls Try.prog 36 #[ptr g, .int .i64 base, .int .i64 off, .slice (some ⟨ob, 0, none⟩) cnt cap] w (ReadP ob cnt (outF base off (roomN L) f h) w) := by
  have hfin : Hid (w.rowIs ob 5 cnt (byteV (outF base off (roomN L) f h)) ∧ w.grownBy w (some ob)) := ⟨hr.congr fun k hk => by
    unfold byteV outF
    rw [if_neg (by omega)], grown_refl w _⟩
  obtain ⟨R, hR⟩ : ∃ R, Hid (R = roomN L) := ⟨_, rfl⟩
  have hrm : Hid (∀ w', Calls Try.prog 33 #[.int .i64 (L : Int)] w' fun e w'' => e = .returned (.int .i64 (R : Nat)) ∧ w' = w'') := fun w' => by rw [hR.out]; exact room_any L hL w'
  rw [← hR.out] at hov hb
  have n2 := hN.cell (i := 2) (by omega)
  rw [hN.lev] at n2
  clear hr hN
  go_enter Try.func36, Try.ntmps36
  go_wp2_with fail
  refine (hrm.out w).mono ?_
  rintro x w1 ⟨rfl, rfl⟩
  dsimp only
  by_cases h1 : base + R ≤ off
  · have h1' : (base : Int) + (R : Int) ≤ (off : Int) := by omega
    clear hov
    go_wp2
    exact Great.bodyPost_end0 rfl rfl ⟨⟨_, rfl⟩, hfin.out⟩
  · have h1' : ¬ (base : Int) + (R : Int) ≤ (off : Int) := by omega
    have h2' : (off : Int) + (cnt : Int) ≤ (base : Int) := by omega
    clear hov
    go_wp2
    exact Great.bodyPost_end0 rfl rfl ⟨⟨_, rfl⟩, hfin.out⟩
theorem infoData : (Try.prog.info? 92).map (·.size) = some 64 := by kernel_rfl
theorem infoU8s : (Try.prog.info? 5).map (·.size) = some 1 := by kernel_rfl
def dataA (f : Nat → Nat) : List Value := (List.range 64).map fun i => .int .u8 (f i : Nat)
theorem dataA_len (f : Nat → Nat) : (dataA f).length = 64 := by simp [dataA]
theorem dataA_at (f : Nat → Nat) {i : Nat} (hi : i < 64) : (dataA f)[i]? = some (.int .u8 (f i : Nat)) := by simp [dataA, hi]
theorem outF_step_in {w : World} {ob cnt base off i q : Nat} {f h : Nat → Nat} (hr : w.rowIs ob 5 cnt (byteV (outF base off i f h))) (hq : base + i = off + q) : (w.setCell ⟨ob, q, none⟩ (.int .u8 (f i : Nat))).rowIs ob 5 cnt (byteV (outF base off (i + 1) f h)) :=
  (hr.set q _).congr fun k hk => by
    unfold byteV outF
    by_cases h1 : k = q
    · subst h1
      rw [if_pos rfl, if_pos (by omega), show off + k - base = i by omega]
    · rw [if_neg h1]
      by_cases h2 : base ≤ off + k ∧ off + k < base + i
      · rw [if_pos h2, if_pos (by omega)]
      · rw [if_neg h2, if_neg (by omega)]
theorem outF_step_out {w : World} {ob cnt base off i : Nat} {f h : Nat → Nat} (hr : w.rowIs ob 5 cnt (byteV (outF base off i f h))) (hn : base + i < off ∨ off + cnt ≤ base + i) : w.rowIs ob 5 cnt (byteV (outF base off (i + 1) f h)) :=
  hr.congr fun k hk => by
    unfold byteV outF
    by_cases h2 : base ≤ off + k ∧ off + k < base + i
    · rw [if_pos h2, if_pos (by omega)]
    · rw [if_neg h2, if_neg (by omega)]
theorem read_leaf (base off ob cnt cap g b : Nat) (F : Nat → Value) (f h : Nat → Nat) (w : World) (hN : Nd w g F b 0) (hFv : ∀ i, i < 64 → F (7 + i) = .int .u8 (f i : Nat)) (hr : w.rowIs ob 5 cnt (byteV h)) (hb : base + 64 ≤ 4096) (ho : off ≤ 4096) (hc : cnt ≤ 4096) (hov : ¬ (base + 64 ≤ off ∨ off + cnt ≤ base)) :
    Calls Try.prog 36 #[ptr g, .int .i64 base, .int .i64 off, .slice (some ⟨ob, 0, none⟩) cnt cap] w (ReadP ob cnt (outF base off 64 f h) w) := by
  have hrm : Hid (∀ w', Calls Try.prog 33 #[.int .i64 ((0 : Nat) : Int)] w' fun e w'' => e = .returned (.int .i64 64) ∧ w' = w'') := fun w' => room_any 0 (by omega) w'
  have n2 := hN.cell (i := 2) (by omega)
  rw [hN.lev] at n2
  have h0 : Hid (w.rowIs ob 5 cnt (byteV (outF base off 0 f h))) := hr.congr fun k hk => by
    unfold byteV outF
    rw [if_neg (by omega)]
  obtain ⟨DA, hlen, hdata, hdat⟩ : ∃ DA : List Value, DA.length = 64 ∧ Hid (w.rangeAt g 7 DA) ∧ Hid (∀ j, j < 64 → ∀ w', (Instr.index 92 (.agg DA.toArray) (.int .i64 (j : Nat))).run Try.prog w' = .ok (.int .u8 (f j : Nat)) w') := by
    refine ⟨dataA f, dataA_len f, fun j v hv => ?_, fun j hj w' => run_index_arr (P := Try.prog) 92 5 64 _ Try.underlying92 Try.underlying5 rfl infoU8s (dataA f).toArray .i64 j _ hj (by simpa using dataA_at f hj) w'⟩
    have hj : j < 64 := by
      have := (List.getElem?_eq_some_iff.1 hv).1
      simpa [dataA_len] using this
    rw [dataA_at f hj] at hv
    cases hv
    rw [← hFv j hj]
    exact hN.cell (by omega)
  have h1' : ¬ (base : Int) + 64 ≤ (off : Int) := by omega
  have h2' : ¬ (off : Int) + (cnt : Int) ≤ (base : Int) := by omega
  clear hN hFv hr hov
  go_enter Try.func36, Try.ntmps36
  go_wp2_with fail
  refine (hrm.out w).mono ?_
  rintro x w1 ⟨rfl, rfl⟩
  dsimp only
  go_wp2_with (refine wpList_load_mid rfl 92 _ rfl g 7 rfl DA _ hdata.out Try.underlying92 rfl (by rw [hlen]; exact infoData) ?_)
  go_loopw [43] (fun x wr => ∃ i : Nat, x = .int .i64 i ∧ i ≤ 64 ∧ Hid (wr.rowIs ob 5 cnt (byteV (outF base off i f h))) ∧ Hid (w.grownBy wr (some ob))) (fun x _ => 64 - (intOf x).toNat)
  case atStart => exact ⟨0, rfl, by omega, h0, grown_refl w _⟩
  case round =>
    obtain ⟨i, rfl, hi, hr, hg⟩ := hrel
    by_cases hlt : i < 64
    · have hix := hdat.out i hlt
      have hii : (i : Int) < 64 := by omega
      by_cases hin : base + i < off ∨ off + cnt ≤ base + i
      · have hfin := Lib.hid (outF_step_out hr.out hin)
        by_cases h3 : base + i < off
        · have e1 : ¬ (0 : Int) ≤ (base : Int) + (i : Int) - (off : Int) := by omega
          clear hin h3
          go_wp2
          go_roundw
          case rel => exact ⟨i + 1, by go_num, by omega, hfin, hg⟩
          case measure => simp [intOf]; omega
        · have e1 : (0 : Int) ≤ (base : Int) + (i : Int) - (off : Int) := by omega
          have e2 : ¬ (base : Int) + (i : Int) - (off : Int) < (cnt : Int) := by omega
          clear hin h3
          go_wp2
          go_roundw
          case rel => exact ⟨i + 1, by go_num, by omega, hfin, hg⟩
          case measure => simp [intOf]; omega
      · obtain ⟨q, hq⟩ : ∃ q, base + i = off + q := ⟨base + i - off, by omega⟩
        have e1 : (base : Int) + (i : Int) - (off : Int) = (q : Int) := by omega
        have e2 : (q : Int) < (cnt : Int) := by omega
        have e3 : (0 : Int) ≤ (q : Int) := by omega
        have o1 := hr.out.cell (i := q) (by omega)
        have o2 := hr.out.frozen q
        have hfin := Lib.hid (outF_step_in hr.out hq)
        have hg2 : Hid (w.grownBy (wr.setCell ⟨ob, q, none⟩ (.int .u8 (f i : Nat))) (some ob)) := by
          have h1 := hg.out
          have h2 := grown_set wr ob q (.int .u8 (f i : Nat))
          exact ⟨h2.os.trans h1.os, h2.tape.trans h1.tape, h2.output.trans h1.output, Nat.le_trans h1.size h2.size, fun k hk hr => (h2.block k (Nat.lt_of_lt_of_le hk h1.size) hr).trans (h1.block k hk hr)⟩
        clear hin hq hr hg
        go_wp2
        go_roundw
        case rel => exact ⟨i + 1, by go_num, by omega, hfin, hg2⟩
        case measure => simp [intOf]; omega
    · have hie : i = 64 := by omega
      subst hie
      have hfin := Lib.hid (And.intro hr.out hg.out)
      clear hr hg
      go_wp2
      exact Great.bodyPost_end0 rfl rfl ⟨⟨_, rfl⟩, hfin.out⟩
theorem grown_next {w w' w'' : World} {row : Option Nat} (h1 : w.grownBy w' row) (h2 : w'.grownBy w'' row) : w.grownBy w'' row :=
  ⟨h2.os.trans h1.os, h2.tape.trans h1.tape, h2.output.trans h1.output, Nat.le_trans h1.size h2.size, fun k hk hr => (h2.block k (Nat.lt_of_lt_of_le hk h1.size) hr).trans (h1.block k hk hr)⟩
theorem outF_next {base off m r : Nat} {f h : Nat → Nat} : outF (base + m) off r (fun x => f (m + x)) (outF base off m f h) = outF base off (m + r) f h := by
  funext k
  unfold outF
  by_cases h1 : base + m ≤ off + k ∧ off + k < base + m + r
  · rw [if_pos h1, if_pos (by omega)]
    dsimp only
    congr 1
    omega
  · rw [if_neg h1]
    by_cases h2 : base ≤ off + k ∧ off + k < base + m
    · rw [if_pos h2, if_pos (by omega)]
    · rw [if_neg h2, if_neg (by omega)]
set_option maxHeartbeats 1000000 in
theorem read_node (L base off ob cnt cap g b c : Nat) (P : Nat → Prop) (F : Nat → Value) (f h : Nat → Nat) (w : World) (hL : L + 1 ≤ 3) (hrec : ReadL L) (hN : Nd w g F b (L + 1)) (hk : ∀ j, j < 4 → Tr w P c L (F (3 + j)) (fun i => f (j * roomN L + i))) (hr : w.rowIs ob 5 cnt (byteV h)) (hb : base + roomN (L + 1) ≤ 4096) (ho : off ≤ 4096) (hc : cnt ≤ 4096) (hov : ¬ (base + roomN (L + 1) ≤ off ∨ off + cnt ≤ base))
    (h0 : ∀ k, k < cnt → base ≤ off + k → off + k < base + roomN (L + 1) → h k = 0) :
    Calls Try.prog 36 #[ptr g, .int .i64 base, .int .i64 off, .slice (some ⟨ob, 0, none⟩) cnt cap] w (ReadP ob cnt (outF base off (roomN (L + 1)) f h) w) := by
  obtain ⟨R, hR⟩ : ∃ R, Hid (R = roomN (L + 1)) := ⟨_, rfl⟩
  obtain ⟨r, hrr⟩ : ∃ r, Hid (r = roomN L) := ⟨_, rfl⟩
  have hR4 : Hid (R = 4 * r) := by rw [hR.out, hrr.out]; exact roomN_succ L
  obtain ⟨L1, hL1⟩ : ∃ L1, Hid (L1 = L + 1) := ⟨_, rfl⟩
  have hrm : Hid (∀ w', Calls Try.prog 33 #[.int .i64 (L1 : Int)] w' fun e w'' => e = .returned (.int .i64 (R : Nat)) ∧ w' = w'') := fun w' => by rw [hR.out, hL1.out]; exact room_any (L + 1) hL w'
  have hroom : Hid (∀ w', Calls Try.prog 33 #[.int .i64 (L : Int)] w' fun e w'' => e = .returned (.int .i64 (r : Nat)) ∧ w' = w'') := fun w' => by rw [hrr.out]; exact room_any L (by omega) w'
  rw [← hR.out] at hb hov h0
  rw [← hrr.out] at hk
  rw [← hR.out]
  have hst : Hid (w.rowIs ob 5 cnt (byteV (outF base off 0 f h))) := hr.congr fun k hk => by
    unfold byteV outF
    rw [if_neg (by omega)]
  have hgob : Hid (g ≠ ob) := by
    obtain ⟨cs, hcs⟩ := hN.blk
    obtain ⟨ds, hds, _⟩ := rowIs_blk hr
    exact blk_ne' hcs hds (by decide)
  have n2 := hN.cell (i := 2) (by omega)
  rw [hN.lev, ← hL1.out] at n2
  obtain ⟨KA, hlen, hkids, hkat⟩ : ∃ KA : List Value, KA.length = 4 ∧ Hid (w.rangeAt g 3 KA) ∧ Hid (∀ j, j < 4 → ∀ w', (Instr.index 91 (.agg KA.toArray) (.int .i64 (j : Nat))).run Try.prog w' = .ok (F (3 + j)) w') :=
    ⟨kidsA F, rfl, hN.kids, fun j hj w' => run_index_arr (P := Try.prog) 91 76 4 _ Try.underlying91 Try.underlying76 rfl infoPtr (kidsA F).toArray .i64 j (F (3 + j)) hj (kidsA_at F hj) w'⟩
  have h1' : ¬ (base : Int) + (R : Int) ≤ (off : Int) := by omega
  have h2' : ¬ (off : Int) + (cnt : Int) ≤ (base : Int) := by omega
  have hL0 : ((L1 : Int) == 0) = false := by
    have := hL1.out
    simp
    omega
  have hkH := Lib.hid hk
  have hrecH := Lib.hid hrec
  have h0H := Lib.hid h0
  have hRle : R ≤ 4096 := by omega
  have hbR : base + R ≤ 4096 := hb
  clear hN hk hr hrec h0 hov
  go_enter Try.func36, Try.ntmps36
  go_wp2_with fail
  refine (hrm.out w).mono ?_
  rintro x w1 ⟨rfl, rfl⟩
  dsimp only
  go_wp2_with (refine wpList_load_mid rfl 91 _ rfl g 3 rfl KA _ hkids.out Try.underlying91 rfl (by rw [hlen]; exact infoKids) ?_)
  go_loopw [69] (fun x wr => ∃ j : Nat, x = .int .i64 j ∧ j ≤ 4 ∧ Hid (wr.rowIs ob 5 cnt (byteV (outF base off (j * r) f h))) ∧ Hid (w.grownBy wr (some ob))) (fun x _ => 4 - (intOf x).toNat)
  case atStart => exact ⟨0, rfl, by omega, by rw [Nat.zero_mul]; exact hst, grown_refl w _⟩
  case round =>
    obtain ⟨j, rfl, hj, hr, hg⟩ := hrel
    by_cases hlt : j < 4
    · obtain ⟨m, hm⟩ : ∃ m, Hid (m = j * r) := ⟨_, rfl⟩
      have hmr : m + r ≤ R := by
        rw [hm.out, hR4.out]
        have : j * r ≤ 3 * r := Nat.mul_le_mul_right _ (by omega)
        omega
      rw [← hm.out] at hr
      have hji : (j : Int) < 4 := by omega
      have hjm : (j : Int) * (r : Int) = (m : Int) := by rw [hm.out]; push_cast; rfl
      have hL1' : (L1 : Int) - 1 = (L : Int) := by have := hL1.out; omega
      have hbm : (base : Int) + (m : Int) = ((base + m : Nat) : Int) := by omega
      obtain ⟨kj, hkj⟩ : ∃ kj, Hid (kj = F (3 + j)) := ⟨_, rfl⟩
      have hix := hkat.out j hlt
      rw [← hkj.out] at hix
      have n2r : wr.cell? ⟨g, 2, none⟩ = some (.int .i64 (L1 : Int)) := by
        exact (World.cell?_of_block (w := w) (hg.out.block g (lt_of_cell n2) (fun e => hgob.out (Option.some.inj e)))).trans n2
      have hread : Hid (Calls Try.prog 36 #[kj, .int .i64 ((base + m : Nat) : Int), .int .i64 (off : Int), .slice (some ⟨ob, 0, none⟩) cnt cap] wr (ReadP ob cnt (outF base off (m + r) f h) wr)) := by
        have h1 := hrecH.out (base + m) off ob cnt cap kj P c (fun i => f (j * r + i)) (outF base off m f h) wr (by
            rw [hkj.out]
            refine (hkH.out j hlt).grown hg.out fun g' cs hb e => ?_
            obtain ⟨ds, hds, _⟩ := rowIs_blk hst.out
            exact blk_ne' hb hds (by decide) (Option.some.inj e).symm) hr.out (by rw [← hrr.out]; omega) ho hc (fun k hk k1 k2 => by
            rw [← hrr.out] at k2
            unfold outF
            rw [if_neg (by omega)]
            exact h0H.out k hk (by omega) (by omega))
        rw [← hrr.out, ← hm.out, outF_next] at h1
        exact h1
      clear hbm
      go_wp2_with fail
      refine (hroom.out wr).mono ?_
      rintro x w2 ⟨rfl, rfl⟩
      dsimp only
      go_wp2_with fail
      refine hread.out.mono ?_
      rintro x w3 ⟨⟨v, rfl⟩, hr3, hg3⟩
      dsimp only
      have hr4 : Hid (w3.rowIs ob 5 cnt (byteV (outF base off ((j + 1) * r) f h))) := by rw [Nat.succ_mul, ← hm.out]; exact hr3
      have hg4 := Lib.hid (grown_next hg.out hg3)
      clear hr3 hg3 hr hg hread hix n2r
      go_wp2
      go_roundw
      case rel => exact ⟨j + 1, by go_num, by omega, hr4, hg4⟩
      case measure => simp [intOf]; omega
    · have hj4 : j = 4 := by omega
      subst hj4
      have hfin : Hid (wr.rowIs ob 5 cnt (byteV (outF base off R f h)) ∧ w.grownBy wr (some ob)) := by
        rw [hR4.out]
        exact ⟨hr.out, hg.out⟩
      clear hr hg
      go_wp2
      exact Great.bodyPost_end0 rfl rfl ⟨⟨_, rfl⟩, hfin.out⟩
theorem read_any : ∀ L, L ≤ 3 → ReadL L
  | 0, _ => fun base off ob cnt cap v P c f h w hT hr hb ho hc h0 => by
    rcases hT with ⟨rfl, hz⟩ | ⟨g, F, b, rfl, h1, h2, h3, h4⟩
    · exact read_nil 0 base off ob cnt cap f h w hz hr h0
    · by_cases hov : base + roomN 0 ≤ off ∨ off + cnt ≤ base
      · exact read_off 0 base off ob cnt cap g b F f h w (by omega) h2 hr hb ho hc hov
      · exact read_leaf base off ob cnt cap g b F f h w h2 h4 hr hb ho hc hov
  | L + 1, hL => fun base off ob cnt cap v P c f h w hT hr hb ho hc h0 => by
    rcases hT with ⟨rfl, hz⟩ | ⟨g, F, b, rfl, h1, h2, h3, h4⟩
    · exact read_nil (L + 1) base off ob cnt cap f h w hz hr h0
    · by_cases hov : base + roomN (L + 1) ≤ off ∨ off + cnt ≤ base
      · exact read_off (L + 1) base off ob cnt cap g b F f h w hL h2 hr hb ho hc hov
      · exact read_node L base off ob cnt cap g b c P F f h w hL (read_any L (by omega)) h2 h4 hr hb ho hc hov h0
end Go.Proofs.Ytiffgeglbafenaa.tree
