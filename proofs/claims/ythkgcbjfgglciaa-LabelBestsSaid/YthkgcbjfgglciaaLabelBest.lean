/-
  Contracts of label.Best and of the reference's LabelBest.
-/
import Derived.Test.YthkgcbjfgglciaaLabelDecRef
import Derived.Test.YthkgcbjfgglciaaFletOpen
import Derived.Test.YthkgcbjfgglciaaRows2
namespace Go.Proofs.Ythkgcbjfgglciaa.label
open Go.ChangeShapes Go.WideShapes Go.ChangeAt Go.RowKit Go.Proofs.Ythkgcbjfgglciaa.kit Go.Proofs.Ythkgcbjfgglciaa.flet Go.Deep
set_option linter.unusedVariables false
attribute [local irreducible] decX decCode

theorem dec_len {n : Nat} (B : Nat → Nat) (h : n ≠ 128) : decCode n B = 1 := by with_unfolding_all (exact if_neg h)
theorem decX_len {n : Nat} (B : Nat → Nat) (h : n ≠ 128) : decX n B = fun _ => 0 := by
  have h1 := dec_len B h
  unfold decX
  rw [h1]
  rfl
theorem Decode_any (n c : Nat) (A : Option Addr) (B : Nat → Nat) (w : World) (hr : RdB w A n B) (hc : n ≤ c) (hcm : c ≤ maxLen) :
    Calls Try.prog 31 #[.slice A n c] w fun e w' => e = .returned (.tuple #[.agg (labC (decX n B)), .int .i64 (decCode n B)]) ∧ New w w' := by
  by_cases hn : n = 128
  · subst hn
    exact Decode_ok c A B w hr hc hcm
  · rw [dec_len B hn, decX_len B hn]
    exact Decode_len n c A w hr.1 hn
theorem LabelDecoded_any (n c : Nat) (A : Option Addr) (B : Nat → Nat) (w : World) (hr : RdB w A n B) (hc : n ≤ c) (hcm : c ≤ maxLen) :
    Calls Try.prog 33 #[.slice A n c] w fun e w' => e = .returned (.tuple #[.agg (labC (decX n B)), .int .i64 (decCode n B)]) ∧ New w w' := by
  by_cases hn : n = 128
  · subst hn
    exact LabelDecoded_ok c A B w hr hc hcm
  · rw [dec_len B hn, decX_len B hn]
    exact LabelDecoded_len n c A w hr.1 hn
theorem dec_time {n : Nat} {B : Nat → Nat} (h : decCode n B = 0) : 0 ≤ decX n B 4 ∧ decX n B 4 ≤ 1048576 := by
  have h2 : decX n B = numX B := by
    funext i
    with_unfolding_all (exact if_pos h)
  rw [h2]
  have h3 : bodyP B := by
    unfold decCode at h
    split at h
    · split at h
      · split at h
        · assumption
        · cases h
      · cases h
    · cases h
  have h4 := h3.1
  unfold okX okP at h4
  omega
/-- of the first k, which is the best: the first among those of the latest time -/
def bestP (ok : Nat → Bool) (T : Nat → Int) (lo hi : Nat) : Option Nat → Prop
  | none => ∀ i, lo ≤ i → i < hi → ok i = false
  | some a => lo ≤ a ∧ a < hi ∧ ok a = true ∧ (∀ i, lo ≤ i → i < hi → ok i = true → T i ≤ T a) ∧ ∀ i, lo ≤ i → i < a → ok i = true → T i < T a
theorem best_one {ok : Nat → Bool} {T : Nat → Int} {lo hi : Nat} : ∀ {r s : Option Nat}, bestP ok T lo hi r → bestP ok T lo hi s → r = s
  | none, none, _, _ => rfl
  | none, some a, h, k => by have := h a k.1 k.2.1; rw [k.2.2.1] at this; cases this
  | some a, none, h, k => by have := k a h.1 h.2.1; rw [h.2.2.1] at this; cases this
  | some a, some b, h, k => by
    have h1 := h.2.2.2.1 b k.1 k.2.1 k.2.2.1
    have h2 := k.2.2.2.1 a h.1 h.2.1 h.2.2.1
    rcases Nat.lt_trichotomy a b with hl | he | hl
    · have := k.2.2.2.2 a h.1 hl h.2.2.1; omega
    · rw [he]
    · have := h.2.2.2.2 b k.1 hl k.2.2.1; omega
theorem best_nil (ok : Nat → Bool) (T : Nat → Int) (lo : Nat) : bestP ok T lo lo none := fun i h1 h2 => by omega
/-- one more at the end -/
theorem fw_bad {ok : Nat → Bool} {T : Nat → Int} {k : Nat} {r : Option Nat} (h : bestP ok T 0 k r) (hk : ok k = false) : bestP ok T 0 (k + 1) r := by
  have key : ∀ i, i < k + 1 → ok i = true → i < k := fun i hi ho => by
    rcases Nat.lt_or_ge i k with h | h
    · exact h
    · have : i = k := by omega
      rw [this, hk] at ho; cases ho
  cases r with
  | none => intro i h1 h2; cases ho : ok i with
    | false => rfl
    | true => have := h i h1 (key i h2 ho); rw [ho] at this; exact this
  | some a => exact ⟨h.1, by have := h.2.1; omega, h.2.2.1, fun i h1 h2 ho => h.2.2.2.1 i h1 (key i h2 ho) ho, h.2.2.2.2⟩
theorem fw_new {ok : Nat → Bool} {T : Nat → Int} {k : Nat} {r : Option Nat} (h : bestP ok T 0 k r) (hk : ok k = true) (ht : ∀ a, r = some a → T a < T k) : bestP ok T 0 (k + 1) (some k) := by
  have hlt : ∀ i, i < k → ok i = true → T i < T k := fun i hi ho => by
    cases r with
    | none => have := h i (Nat.zero_le _) hi; rw [ho] at this; cases this
    | some a => have h1 := h.2.2.2.1 i (Nat.zero_le _) hi ho; have h2 := ht a rfl; omega
  refine ⟨Nat.zero_le _, by omega, hk, fun i _ hi ho => ?_, fun i _ hi ho => hlt i hi ho⟩
  rcases Nat.lt_or_ge i k with h2 | h2
  · exact Int.le_of_lt (hlt i h2 ho)
  · have : i = k := by omega
    rw [this]; exact Int.le_refl _
theorem fw_old {ok : Nat → Bool} {T : Nat → Int} {k a : Nat} (h : bestP ok T 0 k (some a)) (ht : T k ≤ T a) : bestP ok T 0 (k + 1) (some a) := by
  refine ⟨h.1, by have := h.2.1; omega, h.2.2.1, fun i h1 hi ho => ?_, h.2.2.2.2⟩
  rcases Nat.lt_or_ge i k with h2 | h2
  · exact h.2.2.2.1 i h1 h2 ho
  · have : i = k := by omega
    rw [this]; exact ht
/-- one more ahead -/
theorem bw_bad {ok : Nat → Bool} {T : Nat → Int} {k n : Nat} {r : Option Nat} (h : bestP ok T (k + 1) n r) (hk : ok k = false) : bestP ok T k n r := by
  have key : ∀ i, k ≤ i → ok i = true → k + 1 ≤ i := fun i hi ho => by
    rcases Nat.lt_or_ge k i with h | h
    · exact h
    · have : i = k := by omega
      rw [this, hk] at ho; cases ho
  cases r with
  | none => intro i h1 h2; cases ho : ok i with
    | false => rfl
    | true => have := h i (key i h1 ho) h2; rw [ho] at this; exact this
  | some a => exact ⟨by have := h.1; omega, h.2.1, h.2.2.1, fun i h1 h2 ho => h.2.2.2.1 i (key i h1 ho) h2 ho, fun i h1 h2 ho => h.2.2.2.2 i (key i h1 ho) h2 ho⟩
theorem bw_new {ok : Nat → Bool} {T : Nat → Int} {k n : Nat} {r : Option Nat} (h : bestP ok T (k + 1) n r) (hkn : k < n) (hk : ok k = true) (ht : ∀ a, r = some a → T a ≤ T k) : bestP ok T k n (some k) := by
  have hle : ∀ i, k + 1 ≤ i → i < n → ok i = true → T i ≤ T k := fun i hi hn ho => by
    cases r with
    | none => have := h i hi hn; rw [ho] at this; cases this
    | some a => have h1 := h.2.2.2.1 i hi hn ho; have h2 := ht a rfl; omega
  refine ⟨Nat.le_refl _, hkn, hk, fun i hi hn ho => ?_, fun i h1 h2 => by omega⟩
  rcases Nat.lt_or_ge k i with h2 | h2
  · exact hle i h2 hn ho
  · have : i = k := by omega
    rw [this]; exact Int.le_refl _
theorem bw_old {ok : Nat → Bool} {T : Nat → Int} {k n a : Nat} (h : bestP ok T (k + 1) n (some a)) (ht : T k < T a) : bestP ok T k n (some a) := by
  refine ⟨by have := h.1; omega, h.2.1, h.2.2.1, fun i h1 hi ho => ?_, fun i h1 hi ho => ?_⟩
  · rcases Nat.lt_or_ge k i with h2 | h2
    · exact h.2.2.2.1 i h2 hi ho
    · have : i = k := by omega
      rw [this]; exact Int.le_of_lt ht
  · rcases Nat.lt_or_ge k i with h2 | h2
    · exact h.2.2.2.2 i h2 hi ho
    · have : i = k := by omega
      rw [this]; exact ht
/-- the answer -/
def ansX (X : Nat → Nat → Int) : Option Nat → Nat → Int
  | none => fun _ => 0
  | some a => X a
def ansI : Option Nat → Int
  | none => 0
  | some a => a
def ansC : Option Nat → Int
  | none => 6
  | some _ => 0
theorem rdB_of {w : World} {A : Option Addr} {n : Nat} {Z : Nat → Int} (h : RdI .u8 w A n Z) (hb : ∀ i, i < n → 0 ≤ Z i ∧ Z i ≤ 255) : RdB w A n (fun i => (Z i).toNat) :=
  ⟨h.1, fun i hi => by have := hb i hi; show (Z i).toNat < 256; omega, fun h0 => by
    obtain ⟨b, off, hA, hbl, hc⟩ := h.2 h0
    exact ⟨b, off, hA, hbl, fun i hi => by have := hb i hi; rw [hc i hi]; show some (Value.int .u8 (Z i)) = some (.int .u8 ((Z i).toNat : Int)); rw [Int.toNat_of_nonneg this.1]⟩⟩
theorem results_cell_two {P : Program} {fn : Func} {p q r : Tmp} {ty : TypeId} (h : fn.results = #[.cell p ty, .tmp q, .tmp r]) (tmps : Array Value) (w : World) (g : Nat) (t : TypeId) (cs : Array Value) (d : TypeDesc)
    (hp : tmps.getD p undef = .pointer (some ⟨g, 0, none⟩)) (hg : Blk w g t cs) (hu : P.underlying ty = some d) (hd : (match d with | .struct _ | .array _ _ => true | _ => false) = true) (hi : (P.info? ty).map (·.size) = some cs.size) :
    (results fn tmps).run P w = .ok (.tuple #[.agg cs, tmps.getD q undef, tmps.getD r undef]) w := by
  have hp' : tmps[p]?.getD undef = .pointer (some ⟨g, 0, none⟩) := by simpa using hp
  simp [results, h, hp', asAddr, run_loadVar_row w g t ty cs (0, 0) d hg hu hd hi]
/-- a label that is none, of a time -/
def noX (t : Int) : Nat → Int := fun i => if i = 4 then t else 0
/-- what is kept as the best so far -/
def keepX (X : Nat → Nat → Int) (t : Int) : Option Nat → Nat → Int
  | none => noX t
  | some a => X a
def keepI : Option Nat → Int
  | none => -1
  | some a => a
set_option maxRecDepth 100000 in
set_option maxHeartbeats 1000000 in
theorem Best_any (A : Option Addr) (n c : Nat) (R : Nat → Option Addr) (L C : Nat → Nat) (M : Nat → Nat → Int) (w : World) (hM : RdM .u8 w A n R L C M) (hb : ∀ i, i < n → ∀ k, k < L i → 0 ≤ M i k ∧ M i k ≤ 255) :
    Calls Try.prog 34 #[.slice A n c] w fun e w' => (∃ r, bestP (fun i => decide (decCode (L i) (fun k => (M i k).toNat) = 0)) (fun i => decX (L i) (fun k => (M i k).toNat) 4) 0 n r ∧
      e = .returned (.tuple #[.agg (labC (ansX (fun i => decX (L i) (fun k => (M i k).toNat)) r)), .int .i64 (ansI r), .int .i64 (ansC r)])) ∧ New w w' := by
  have hm := hM.1
  unfold maxLen at hm
  obtain ⟨X, hX⟩ : ∃ X : Nat → Nat → Int, Hid (X = fun i => decX (L i) (fun k => (M i k).toNat)) := ⟨_, (rfl : _ = _)⟩
  obtain ⟨K, hK⟩ : ∃ K : Nat → Int, Hid (K = fun i => decCode (L i) (fun k => (M i k).toNat)) := ⟨_, (rfl : _ = _)⟩
  have hD : Hid (∀ i, i < n → ∀ w', New w w' → Calls Try.prog 31 #[.slice (R i) (L i) (C i)] w' fun e w'' => e = .returned (.tuple #[.agg (labC (X i)), .int .i64 (K i)]) ∧ New w' w'') := fun i hi w' hn => by
    rw [hX.out, hK.out]
    exact Decode_any (L i) (C i) (R i) _ w' ((rdB_of (hM.2.2 i hi).1 (hb i hi)).new hn) (hM.2.2 i hi).2.1 (hM.2.2 i hi).2.2
  have hT : Hid (∀ i, K i = 0 → 0 ≤ X i 4 ∧ X i 4 ≤ 1048576) := fun i h => by
    rw [hX.out]
    rw [hK.out] at h
    exact dec_time h
  have hgoal : Hid (∀ (r : Option Nat) (e : Ending) (w' : World), bestP (fun i => decide (K i = 0)) (fun i => X i 4) 0 n r → e = .returned (.tuple #[.agg (labC (ansX X r)), .int .i64 (ansI r), .int .i64 (ansC r)]) → New w w' → (∃ r, bestP (fun i => decide (decCode (L i) (fun k => (M i k).toNat) = 0)) (fun i => decX (L i) (fun k => (M i k).toNat) 4) 0 n r ∧
      e = .returned (.tuple #[.agg (labC (ansX (fun i => decX (L i) (fun k => (M i k).toNat)) r)), .int .i64 (ansI r), .int .i64 (ansC r)])) ∧ New w w') := fun r e w' h1 h2 h3 => by
    subst h2
    have e1 := hX.out
    have e2 := hK.out
    subst e1 e2
    exact ⟨⟨r, h1, rfl⟩, h3⟩
  have hM1 := Lib.hid hM
  have hb0 : Blk ((w.alloc (.cells zero13 41)).alloc (.cells (labC (keepX X (-1) none)) 41)) w.heap.size 41 zero13 := (Blk.fresh w _ _).alloc _
  have hb1 : Blk ((w.alloc (.cells zero13 41)).alloc (.cells (labC (keepX X (-1) none)) 41)) (w.heap.size + 1) 41 (labC (keepX X (-1) none)) := blk_at (by simp)
  have hN0 := ((New.refl w).alloc (.cells zero13 41)).alloc (.cells (labC (keepX X (-1) none)) 41)
  have hb2 := Lib.hid hb0
  have hb3 := Lib.hid hb1
  have hN1 := Lib.hid hN0
  clear hM hb hb0 hb1 hN0
  go_enter Try.func34, Try.ntmps34
  go_wp2
  go_loopw [14, 6] (fun k a wr => ∃ (q : Nat) (r : Option Nat), k = .int .i64 q ∧ q ≤ n ∧ a = .int .i64 (keepI r) ∧ Hid (bestP (fun i => decide (K i = 0)) (fun i => X i 4) 0 q r) ∧ Blk wr w.heap.size 41 zero13 ∧ Blk wr (w.heap.size + 1) 41 (labC (keepX X (-1) r)) ∧ New w wr) (fun k _ _ => n - (intOf k).toNat)
  case atStart => exact ⟨0, none, rfl, by omega, rfl, best_nil _ _ _, hb2.out, hb3.out, hN1.out⟩
  case round =>
    obtain ⟨q, r, rfl, hq, rfl, hbest, hx0, hx1, hnw⟩ := hrel
    by_cases hlt : q < n
    · obtain ⟨b, off, rfl, hbb, hcs⟩ := hM1.out.2.1 (by omega)
      have ci := (hnw.cell hbb).trans (hcs q hlt)
      have hx0' := Lib.hid hx0
      have hx1' := Lib.hid hx1
      have hnw' := Lib.hid hnw
      clear hx0 hx1 hnw hcs
      go_wp2_with fail
      refine (hD.out q hlt _ hnw'.out).mono ?_
      rintro e w1 ⟨rfl, hn1⟩
      have hy0 := (hx0'.out.new hn1).alloc (.cells (labC (X q)) 41)
      have hy1 := (hx1'.out.new hn1).alloc (.cells (labC (X q)) 41)
      have hny := (hnw'.out.next hn1).alloc (.cells (labC (X q)) 41)
      have hsz : w.heap.size + 1 < w1.heap.size := (hx1'.out.new hn1).lt
      have d4 : w1.cell? ⟨w.heap.size + 1, 4, none⟩ = some (.int .i64 (keepX X (-1) r 4)) := (hx1'.out.new hn1).cell 4
      have hy0' := Lib.hid hy0
      have hy1' := Lib.hid hy1
      have hny' := Lib.hid hny
      clear hn1 hy0 hy1 hny ci
      obtain ⟨kq, hkq⟩ : ∃ kq, Hid (K q = kq) := ⟨_, (rfl : _ = _)⟩
      rw [hkq.out]
      by_cases hok : kq = 0
      · subst hok
        have hokb : Hid (decide (K q = 0) = true) := decide_eq_true hkq.out
        have htq := hT.out q hkq.out
        obtain ⟨kt, hkt⟩ : ∃ kt, Hid (keepX X (-1) r 4 = kt) := ⟨_, (rfl : _ = _)⟩
        rw [hkt.out] at d4
        by_cases hgt : kt < X q 4
        · have hnext : Hid (bestP (fun i => decide (K i = 0)) (fun i => X i 4) 0 (q + 1) (some q)) := fw_new hbest.out hokb.out fun a ha => by
            rw [← hkt.out, ha] at hgt
            exact hgt
          have hy2 := Lib.hid (hy1'.out.row (labC (X q)))
          have hy3 := Lib.hid (hy0'.out.row_far (g := w.heap.size + 1) (by omega) (labC (X q)))
          have hny2 := Lib.hid (hny'.out.row (g := w.heap.size + 1) (by omega) (labC (X q)))
          go_wp2_with (refine wpList_store_row rfl 41 _ _ rfl (w.heap.size + 1) (labC (X q)) rfl rfl 41 (labC (keepX X (-1) r)) hy1'.out (by kernel_rfl) rfl (labC_one (X q)) ?_)
          go_roundw
          case rel => exact ⟨q + 1, some q, by go_num, by omega, rfl, hnext.out, hy3.out, hy2.out, hny2.out⟩
          case measure => simp [intOf]; omega
        · obtain ⟨a, rfl⟩ : ∃ a, r = some a := by
            cases r with
            | none => exfalso; have : keepX X (-1) none 4 = -1 := rfl; rw [hkt.out] at this; omega
            | some a => exact ⟨a, rfl⟩
          have hnext : Hid (bestP (fun i => decide (K i = 0)) (fun i => X i 4) 0 (q + 1) (some a)) := fw_old hbest.out (by
            have : X a 4 = kt := hkt.out
            show X q 4 ≤ X a 4
            omega)
          have hgtb : decide (kt < X q 4) = false := by simp; omega
          go_wp2
          go_roundw
          case rel => exact ⟨q + 1, some a, by go_num, by omega, rfl, hnext.out, hy0'.out, hy1'.out, hny'.out⟩
          case measure => simp [intOf]; omega
      · have hokb : Hid (decide (K q = 0) = false) := decide_eq_false (by rw [hkq.out]; exact hok)
        have hnext := Lib.hid (fw_bad hbest.out hokb.out)
        have hkb : (kq == 0) = false := by simpa using hok
        clear hok
        go_wp2
        go_roundw
        case rel => exact ⟨q + 1, r, by go_num, by omega, rfl, hnext.out, hy0'.out, hy1'.out, hny'.out⟩
        case measure => simp [intOf]; omega
    · have hqn : q = n := by omega
      subst hqn
      have hx0' := Lib.hid hx0
      have hx1' := Lib.hid hx1
      have hnw' := Lib.hid hnw
      cases r with
      | none =>
        have hk1 : keepI none = -1 := rfl
        rw [hk1]
        clear hx0 hx1 hnw hk1
        go_wp2_with (refine wpList_store_row rfl 41 _ _ rfl w.heap.size zero13 rfl rfl 41 zero13 hx0'.out (by kernel_rfl) rfl zero13_one ?_)
        exact bodyPost_ret (v := .tuple #[.agg zero13, .int .i64 0, .int .i64 6]) (results_cell_two Try.results34 _ _ w.heap.size 41 zero13 _ rfl (hx0'.out.row zero13) Try.underlying41 rfl (by kernel_rfl)) rfl (hgoal.out none _ _ hbest.out rfl (hnw'.out.row (g := w.heap.size) (Nat.le_refl _) zero13))
      | some a =>
        have hk1 : keepI (some a) = (a : Int) := rfl
        rw [hk1]
        obtain ⟨r0, r1, r2, r3, r4, r5, r6, r7, r8, r9, r10, r11, r12⟩ := cells13 (X := X a) hx1
        clear hx0 hx1 hnw hk1
        go_wp2_with (refine wpList_store_row rfl 41 _ _ rfl w.heap.size (labC (X a)) rfl rfl 41 zero13 hx0'.out (by kernel_rfl) rfl (labC_one (X a)) ?_)
        exact bodyPost_ret (v := .tuple #[.agg (labC (X a)), .int .i64 a, .int .i64 0]) (results_cell_two Try.results34 _ _ w.heap.size 41 (labC (X a)) _ rfl (hx0'.out.row (labC (X a))) Try.underlying41 rfl (by kernel_rfl)) rfl (hgoal.out (some a) _ _ hbest.out rfl (hnw'.out.row (g := w.heap.size) (Nat.le_refl _) (labC (X a))))
set_option maxRecDepth 100000 in
set_option maxHeartbeats 1000000 in
theorem LabelBest_any (A : Option Addr) (n c : Nat) (R : Nat → Option Addr) (L C : Nat → Nat) (M : Nat → Nat → Int) (w : World) (hM : RdM .u8 w A n R L C M) (hb : ∀ i, i < n → ∀ k, k < L i → 0 ≤ M i k ∧ M i k ≤ 255) :
    Calls Try.prog 35 #[.slice A n c] w fun e w' => (∃ r, bestP (fun i => decide (decCode (L i) (fun k => (M i k).toNat) = 0)) (fun i => decX (L i) (fun k => (M i k).toNat) 4) 0 n r ∧
      e = .returned (.tuple #[.agg (labC (ansX (fun i => decX (L i) (fun k => (M i k).toNat)) r)), .int .i64 (ansI r), .int .i64 (ansC r)])) ∧ New w w' := by
  have hm := hM.1
  unfold maxLen at hm
  obtain ⟨X, hX⟩ : ∃ X : Nat → Nat → Int, Hid (X = fun i => decX (L i) (fun k => (M i k).toNat)) := ⟨_, (rfl : _ = _)⟩
  obtain ⟨K, hK⟩ : ∃ K : Nat → Int, Hid (K = fun i => decCode (L i) (fun k => (M i k).toNat)) := ⟨_, (rfl : _ = _)⟩
  have hD : Hid (∀ i, i < n → ∀ w', New w w' → Calls Try.prog 33 #[.slice (R i) (L i) (C i)] w' fun e w'' => e = .returned (.tuple #[.agg (labC (X i)), .int .i64 (K i)]) ∧ New w' w'') := fun i hi w' hn => by
    rw [hX.out, hK.out]
    exact LabelDecoded_any (L i) (C i) (R i) _ w' ((rdB_of (hM.2.2 i hi).1 (hb i hi)).new hn) (hM.2.2 i hi).2.1 (hM.2.2 i hi).2.2
  have hT : Hid (∀ i, K i = 0 → 0 ≤ X i 4 ∧ X i 4 ≤ 1048576) := fun i h => by
    rw [hX.out]
    rw [hK.out] at h
    exact dec_time h
  have hgoal : Hid (∀ (r : Option Nat) (e : Ending) (w' : World), bestP (fun i => decide (K i = 0)) (fun i => X i 4) 0 n r → e = .returned (.tuple #[.agg (labC (ansX X r)), .int .i64 (ansI r), .int .i64 (ansC r)]) → New w w' → (∃ r, bestP (fun i => decide (decCode (L i) (fun k => (M i k).toNat) = 0)) (fun i => decX (L i) (fun k => (M i k).toNat) 4) 0 n r ∧
      e = .returned (.tuple #[.agg (labC (ansX (fun i => decX (L i) (fun k => (M i k).toNat)) r)), .int .i64 (ansI r), .int .i64 (ansC r)])) ∧ New w w') := fun r e w' h1 h2 h3 => by
    subst h2
    have e1 := hX.out
    have e2 := hK.out
    subst e1 e2
    exact ⟨⟨r, h1, rfl⟩, h3⟩
  have hM1 := Lib.hid hM
  have hb0 : Blk ((w.alloc (.cells zero13 41)).alloc (.cells (labC (keepX X 0 none)) 41)) w.heap.size 41 zero13 := (Blk.fresh w _ _).alloc _
  have hb1 : Blk ((w.alloc (.cells zero13 41)).alloc (.cells (labC (keepX X 0 none)) 41)) (w.heap.size + 1) 41 (labC (keepX X 0 none)) := blk_at (by simp)
  have hN0 := ((New.refl w).alloc (.cells zero13 41)).alloc (.cells (labC (keepX X 0 none)) 41)
  have hb2 := Lib.hid hb0
  have hb3 := Lib.hid hb1
  have hN1 := Lib.hid hN0
  clear hM hb hb0 hb1 hN0
  go_enter Try.func35, Try.ntmps35
  go_wp2
  go_loopw [7, 6] (fun k a wr => ∃ (q : Nat) (r : Option Nat), q ≤ n ∧ k = .int .i64 ((q : Int) - 1) ∧ a = .int .i64 (keepI r) ∧ Hid (bestP (fun i => decide (K i = 0)) (fun i => X i 4) q n r) ∧ Blk wr w.heap.size 41 zero13 ∧ Blk wr (w.heap.size + 1) 41 (labC (keepX X 0 r)) ∧ New w wr) (fun k _ _ => (intOf k + 1).toNat)
  case atStart => exact ⟨n, none, by omega, rfl, rfl, best_nil _ _ _, hb2.out, hb3.out, hN1.out⟩
  case round =>
    obtain ⟨q', r, hq, rfl, rfl, hbest, hx0, hx1, hnw⟩ := hrel
    by_cases hlt : 0 < q'
    · obtain ⟨q, rfl⟩ : ∃ q, q' = q + 1 := ⟨q' - 1, by omega⟩
      have hqe : ((q + 1 : Nat) : Int) - 1 = (q : Int) := by omega
      rw [hqe]
      have hlt2 : q < n := by omega
      obtain ⟨b, off, rfl, hbb, hcs⟩ := hM1.out.2.1 (by omega)
      have ci := (hnw.cell hbb).trans (hcs q hlt2)
      have hx0' := Lib.hid hx0
      have hx1' := Lib.hid hx1
      have hnw' := Lib.hid hnw
      have hge : (0 : Int) ≤ (q : Int) := by omega
      have hli : (q : Int) < (n : Int) := by omega
      clear hx0 hx1 hnw hcs hqe
      go_wp2_with fail
      refine (hD.out q hlt2 _ hnw'.out).mono ?_
      rintro e w1 ⟨rfl, hn1⟩
      have hy0 := (hx0'.out.new hn1).alloc (.cells (labC (X q)) 41)
      have hy1 := (hx1'.out.new hn1).alloc (.cells (labC (X q)) 41)
      have hny := (hnw'.out.next hn1).alloc (.cells (labC (X q)) 41)
      have hsz : w.heap.size + 1 < w1.heap.size := (hx1'.out.new hn1).lt
      have d4 : w1.cell? ⟨w.heap.size + 1, 4, none⟩ = some (.int .i64 (keepX X 0 r 4)) := (hx1'.out.new hn1).cell 4
      have hy0' := Lib.hid hy0
      have hy1' := Lib.hid hy1
      have hny' := Lib.hid hny
      clear hn1 hy0 hy1 hny ci
      obtain ⟨kq, hkq⟩ : ∃ kq, Hid (K q = kq) := ⟨_, (rfl : _ = _)⟩
      rw [hkq.out]
      by_cases hok : kq = 0
      · subst hok
        have hokb : Hid (decide (K q = 0) = true) := decide_eq_true hkq.out
        have htq := hT.out q hkq.out
        have hy2 := Lib.hid (hy1'.out.row (labC (X q)))
        have hy3 := Lib.hid (hy0'.out.row_far (g := w.heap.size + 1) (by omega) (labC (X q)))
        have hny2 := Lib.hid (hny'.out.row (g := w.heap.size + 1) (by omega) (labC (X q)))
        cases r with
        | none =>
          have hnext : Hid (bestP (fun i => decide (K i = 0)) (fun i => X i 4) q n (some q)) := bw_new hbest.out hlt2 hokb.out fun a ha => by cases ha
          have hk1 : keepI none = -1 := rfl
          rw [hk1]
          clear hk1
          go_wp2_with (refine wpList_store_row rfl 41 _ _ rfl (w.heap.size + 1) (labC (X q)) rfl rfl 41 (labC (keepX X 0 none)) hy1'.out (by kernel_rfl) rfl (labC_one (X q)) ?_)
          go_roundw
          case rel => exact ⟨q, some q, by omega, rfl, rfl, hnext.out, hy3.out, hy2.out, hny2.out⟩
          case measure => simp [intOf]; try omega
        | some a =>
          obtain ⟨kt, hkt⟩ : ∃ kt, Hid (keepX X 0 (some a) 4 = kt) := ⟨_, (rfl : _ = _)⟩
          rw [hkt.out] at d4
          have hk1 : keepI (some a) = (a : Int) := rfl
          rw [hk1]
          clear hk1
          have ha0 : decide ((a : Int) < 0) = false := by simp
          by_cases hgt : kt ≤ X q 4
          · have hnext : Hid (bestP (fun i => decide (K i = 0)) (fun i => X i 4) q n (some q)) := bw_new hbest.out hlt2 hokb.out fun a' ha => by
              cases ha
              rw [← hkt.out] at hgt
              exact hgt
            go_wp2_with (refine wpList_store_row rfl 41 _ _ rfl (w.heap.size + 1) (labC (X q)) rfl rfl 41 (labC (keepX X 0 (some a))) hy1'.out (by kernel_rfl) rfl (labC_one (X q)) ?_)
            go_roundw
            case rel => exact ⟨q, some q, by omega, rfl, rfl, hnext.out, hy3.out, hy2.out, hny2.out⟩
            case measure => simp [intOf]; try omega
          · have hnext : Hid (bestP (fun i => decide (K i = 0)) (fun i => X i 4) q n (some a)) := bw_old hbest.out (by
              have : X a 4 = kt := hkt.out
              show X q 4 < X a 4
              omega)
            have hgtb : decide (kt ≤ X q 4) = false := by simp; omega
            go_wp2
            go_roundw
            case rel => exact ⟨q, some a, by omega, rfl, rfl, hnext.out, hy0'.out, hy1'.out, hny'.out⟩
            case measure => simp [intOf]; try omega
      · have hokb : Hid (decide (K q = 0) = false) := decide_eq_false (by rw [hkq.out]; exact hok)
        have hnext := Lib.hid (bw_bad hbest.out hokb.out)
        have hkb : (kq == 0) = false := by simpa using hok
        clear hok
        go_wp2
        go_roundw
        case rel => exact ⟨q, r, by omega, rfl, rfl, hnext.out, hy0'.out, hy1'.out, hny'.out⟩
        case measure => simp [intOf]; try omega
    · have hqn : q' = 0 := by omega
      subst hqn
      have hm1 : ((0 : Nat) : Int) - 1 = -1 := rfl
      rw [hm1]
      clear hm1
      have hx0' := Lib.hid hx0
      have hx1' := Lib.hid hx1
      have hnw' := Lib.hid hnw
      cases r with
      | none =>
        have hk1 : keepI none = -1 := rfl
        rw [hk1]
        clear hx0 hx1 hnw hk1
        go_wp2_with (refine wpList_store_row rfl 41 _ _ rfl w.heap.size zero13 rfl rfl 41 zero13 hx0'.out (by kernel_rfl) rfl zero13_one ?_)
        exact bodyPost_ret (v := .tuple #[.agg zero13, .int .i64 0, .int .i64 6]) (results_cell_two Try.results35 _ _ w.heap.size 41 zero13 _ rfl (hx0'.out.row zero13) Try.underlying41 rfl (by kernel_rfl)) rfl (hgoal.out none _ _ hbest.out rfl (hnw'.out.row (g := w.heap.size) (Nat.le_refl _) zero13))
      | some a =>
        have hk1 : keepI (some a) = (a : Int) := rfl
        rw [hk1]
        obtain ⟨r0, r1, r2, r3, r4, r5, r6, r7, r8, r9, r10, r11, r12⟩ := cells13 (X := X a) hx1
        clear hx0 hx1 hnw hk1
        go_wp2_with (refine wpList_store_row rfl 41 _ _ rfl w.heap.size (labC (X a)) rfl rfl 41 zero13 hx0'.out (by kernel_rfl) rfl (labC_one (X a)) ?_)
        exact bodyPost_ret (v := .tuple #[.agg (labC (X a)), .int .i64 a, .int .i64 0]) (results_cell_two Try.results35 _ _ w.heap.size 41 (labC (X a)) _ rfl (hx0'.out.row (labC (X a))) Try.underlying41 rfl (by kernel_rfl)) rfl (hgoal.out (some a) _ _ hbest.out rfl (hnw'.out.row (g := w.heap.size) (Nat.le_refl _) (labC (X a))))
end Go.Proofs.Ythkgcbjfgglciaa.label
