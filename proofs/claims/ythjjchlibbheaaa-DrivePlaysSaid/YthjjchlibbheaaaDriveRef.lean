/-
  Contract of the reference's DrivePlayed.
-/
import Derived.Test.YthjjchlibbheaaaDriveRefMem
import Derived.Deep.DeepCutAuto
import Derived.Deep.CutBlock
namespace Go.Proofs.Ythjjchlibbheaaa.drive
open Go.ChangeShapes Go.WideShapes Go.ChangeAt Go.RowKit Go.Proofs.Ythjjchlibbheaaa.kit Go.Deep Go.Maps
set_option linter.unusedVariables false
theorem infoJob : (Try.prog.info? 93).map (fun i => (i.zero, i.size, i.bytes)) = some (some (.agg #[.int .i64 0, .int .i64 0, .int .i64 0, .slice none 0 0]), 4, 48) := by kernel_rfl
theorem zeroS (w : World) : (zeroValue 79).run Try.prog w = .ok (.slice none 0 0) w := by kernel_rfl
theorem zeroI (w : World) : (zeroValue 3).run Try.prog w = .ok (.int .i64 0) w := by kernel_rfl
theorem step_no {n : Nat} {s s' : DS} {k a kp : Int} {l : Nat} {D : Nat → Nat} {cd : Int} {q : Int × Option (Nat → Nat)} (e : stepS n s k a kp l D = (s', q)) (h : faultC n s.dead k a l = cd) (hc : cd ≠ 0) : (s, cd, none) = (s', q) := by
  rw [← e]
  unfold stepS
  rw [h, if_pos hc]
theorem fault_kind {n : Nat} {dead : Bool} {k a : Int} {l : Nat} (h : k < 1 ∨ 8 < k) : faultC n dead k a l = 3 := if_pos h
theorem fault_dead {n : Nat} {dead : Bool} {k a : Int} {l : Nat} (h : 1 ≤ k ∧ k ≤ 8) (hd : dead = true ∧ k ≠ 8) : faultC n dead k a l = 13 := by
  unfold faultC
  rw [if_neg (by omega), if_pos hd]
theorem fault_range {n : Nat} {dead : Bool} {k a : Int} {l : Nat} (h : 1 ≤ k ∧ k ≤ 8) (hd : ¬ (dead = true ∧ k ≠ 8)) (hp : placedP k ∧ (a < 0 ∨ (n : Int) ≤ a)) : faultC n dead k a l = 2 := by
  unfold faultC
  rw [if_neg (by omega), if_neg hd, if_pos hp]
theorem fault_len {n : Nat} {dead : Bool} {k a : Int} {l : Nat} (h : 1 ≤ k ∧ k ≤ 8) (hd : ¬ (dead = true ∧ k ≠ 8)) (hp : ¬ (placedP k ∧ (a < 0 ∨ (n : Int) ≤ a))) (hl : (k = 1 ∨ k = 6) ∧ l ≠ 128) : faultC n dead k a l = 1 := by
  unfold faultC
  rw [if_neg (by omega), if_neg hd, if_neg hp, if_pos hl]
theorem fault_none {n : Nat} {dead : Bool} {k a : Int} {l : Nat} (h : 1 ≤ k ∧ k ≤ 8) (hd : ¬ (dead = true ∧ k ≠ 8)) (hp : ¬ (placedP k ∧ (a < 0 ∨ (n : Int) ≤ a))) (hl : ¬ ((k = 1 ∨ k = 6) ∧ l ≠ 128)) : faultC n dead k a l = 0 := by
  unfold faultC
  rw [if_neg (by omega), if_neg hd, if_neg hp, if_neg hl]
theorem step1 {n : Nat} {s : DS} {a kp : Int} {l : Nat} {D : Nat → Nat} (h : faultC n s.dead 1 a l = 0) : stepS n s 1 a kp l D = ({ s with ws := s.ws ++ [(a.toNat, D)] }, 0, none) := by
  unfold stepS
  rw [if_neg (by rw [h]; decide)]
  rfl
theorem step2 {n : Nat} {s : DS} {a kp : Int} {l : Nat} {D : Nat → Nat} (h : faultC n s.dead 2 a l = 0) : stepS n s 2 a kp l D = (s, getS s a.toNat) := by
  unfold stepS
  rw [if_neg (by rw [h]; decide)]
  rfl
theorem step3 {n : Nat} {s : DS} {a kp : Int} {l : Nat} {D : Nat → Nat} (h : faultC n s.dead 3 a l = 0) : stepS n s 3 a kp l D = (settleS (fun _ => true) s, 0, none) := by
  unfold stepS
  rw [if_neg (by rw [h]; decide)]
  rfl
theorem step4 {n : Nat} {s : DS} {a kp : Int} {l : Nat} {D : Nat → Nat} (h : faultC n s.dead 4 a l = 0) : stepS n s 4 a kp l D = (settleS (bitP kp) s, 0, none) := by
  unfold stepS
  rw [if_neg (by rw [h]; decide)]
  rfl
theorem step5 {n : Nat} {s : DS} {a kp : Int} {l : Nat} {D : Nat → Nat} (h : faultC n s.dead 5 a l = 0) : stepS n s 5 a kp l D = ({ s with br := fun i => if i = a.toNat then true else s.br i }, 0, none) := by
  unfold stepS
  rw [if_neg (by rw [h]; decide)]
  rfl
theorem step6 {n : Nat} {s : DS} {a kp : Int} {l : Nat} {D : Nat → Nat} (h : faultC n s.dead 6 a l = 0) : stepS n s 6 a kp l D = (putP s (a.toNat, D), 0, none) := by
  unfold stepS
  rw [if_neg (by rw [h]; decide)]
  rfl
theorem step7 {n : Nat} {s : DS} {a kp : Int} {l : Nat} {D : Nat → Nat} (h : faultC n s.dead 7 a l = 0) : stepS n s 7 a kp l D = ({ s with dead := true }, 0, none) := by
  unfold stepS
  rw [if_neg (by rw [h]; decide)]
  rfl
theorem step8 {n : Nat} {s : DS} {a kp : Int} {l : Nat} {D : Nat → Nat} (h : faultC n s.dead 8 a l = 0) : stepS n s 8 a kp l D = (DS.fresh, 0, none) := by
  unfold stepS
  rw [if_neg (by rw [h]; decide)]
  rfl
def orZ (o : Option (Nat → Nat)) : Nat → Nat := match o with | some d => d | none => fun _ => 0
theorem one_shl (sh : Nat) (h : sh < 62) : IntKind.i64.wrap ((1 : Int) * 2 ^ sh) = 2 ^ sh := by
  have h1 : (2 : Nat) ^ sh < 2 ^ 62 := Nat.pow_lt_pow_right (by decide) h
  have h2 : ((2 : Int) ^ sh) = ((2 ^ sh : Nat) : Int) := by push_cast; rfl
  have h3 : 0 < (2 : Nat) ^ sh := Nat.pow_pos (by decide)
  rw [Int.one_mul, h2, IntKind.wrap_i64]
  generalize (2 : Nat) ^ sh = y at h1 h3
  omega
/-- how a round ends -/
def CutP (w : World) (n i : Nat) (s : DS) (Q : Nat → Int × Option (Nat → Nat)) (jb : Nat) (o : Value) (ov : Nat → Value) (p b x dd : Value) (wx : World) : Prop :=
  ∃ pb bb fp fb dv rv, p = .map (some pb) ∧ b = .map (some bb) ∧ dd = .bool s.dead ∧ R0 w n i s Q pb bb (1000 * i + 1000) fp fb x dv o ov wx ∧ Blk wx (jb + 1) 95 #[.int .i64 (Q i).1, rv] ∧ Dat wx rv (Q i).2
theorem CutP.fault {w : World} {n i : Nat} {s s' : DS} {Q : Nat → Int × Option (Nat → Nat)} {jb pb bb np : Nat} {fp fb : Nat → Value} {wv : Value} {dv : Nat → Value} {o : Value} {ov : Nat → Value} {wx : World} (h : R0 w n i s Q pb bb np fp fb wv dv o ov wx) (hnp : np ≤ 1000 * i + 1000) (hb : Blk wx (jb + 1) 95 #[.int .i64 0, .slice none 0 0]) (ho : o.ownBlock ≠ some (jb + 1)) (hlo : w.heap.size ≤ jb) (cd : Int) (e : (s, cd, none) = (s', Q i)) :
    CutP w n i s' Q jb o ov (.map (some pb)) (.map (some bb)) wv (.bool s.dead) (wx.setCell ⟨jb + 1, 0, none⟩ (.int .i64 cd)) := by
  obtain ⟨rfl, e2⟩ := Prod.mk.inj e
  refine ⟨pb, bb, fp, fb, dv, .slice none 0 0, rfl, rfl, rfl, (h.far hb (by decide) (by decide) ho (by omega) 0 _).mono hnp, ?_, ?_⟩
  · rw [← e2]; exact hb.put 0 (.int .i64 cd)
  · rw [← e2]; exact rfl
theorem CutP.ok {w : World} {n i : Nat} {s s' : DS} {Q : Nat → Int × Option (Nat → Nat)} {jb pb bb np : Nat} {fp fb : Nat → Value} {wv : Value} {dv : Nat → Value} {o : Value} {ov : Nat → Value} {wx : World} {q : Int × Option (Nat → Nat)} {rv : Value} (h : R0 w n i s Q pb bb np fp fb wv dv o ov wx) (hnp : np ≤ 1000 * i + 1000) (hb : Blk wx (jb + 1) 95 #[.int .i64 q.1, rv]) (hd : Dat wx rv q.2) (e : (s, q) = (s', Q i)) {dd : Value} (hdd : dd = .bool s.dead) :
    CutP w n i s' Q jb o ov (.map (some pb)) (.map (some bb)) wv dd wx := by
  obtain ⟨rfl, rfl⟩ := Prod.mk.inj e
  exact ⟨pb, bb, fp, fb, dv, rv, rfl, rfl, hdd, h.mono hnp, hb, hd⟩
set_option maxHeartbeats 40000000 in
set_option maxRecDepth 100000 in
theorem Ref_ok (n m c : Nat) (A : Option Addr) (K B P : Nat → Int) (R : Nat → Option Addr) (L C : Nat → Nat) (D : Nat → Nat → Nat) (w : World) (h1 : 1 ≤ n) (hn : n ≤ 512) (hm : m ≤ 300) (hJ : RdJ w A m K B P R L C D) :
    Calls Try.prog 20 #[.int .i64 n, .slice A m c] w (PlP (repS n K B P L D) m 0 w) := by
  obtain ⟨i0, hi0, hz0, hz1, hz2⟩ := info_parts infoRep
  obtain ⟨j0, hj0, hy0, hy1, hy2⟩ := info_parts infoJob
  have hJH := Lib.hid hJ
  have g1 : ¬ (n : Int) < 1 := by omega
  have g2 : ¬ (512 : Int) < (n : Int) := by omega
  have g3 : ¬ (300 : Int) < (m : Int) := by omega
  obtain ⟨S, hS⟩ : ∃ S, Hid (S = runS n K B P L D) := ⟨_, rfl⟩
  obtain ⟨Q, hQ⟩ : ∃ Q, Hid (Q = repS n K B P L D) := ⟨_, rfl⟩
  rw [← hQ.out]
  have hin : Hid (∀ i, InS n i (S i)) := fun i => by rw [hS.out]; exact run_in n K B P L D i
  have hst : Hid (∀ i, stepS n (S i) (K i) (B i) (P i) (L i) (D i) = (S (i + 1), Q i)) := fun i => by rw [hS.out, hQ.out]; rfl
  have hS0 : S 0 = DS.fresh := by rw [hS.out]; rfl
  have hmm := @run_makeMap Try.prog
  clear hJ
  have hR00 : Hid (R0 w n 0 (S 0) Q w.heap.size (w.heap.size + 1) 0 (fun _ => .slice none 0 0) (fun _ => .int .i64 0) (.slice none 0 0) (fun _ => .slice none 0 0) (.slice none 0 0) (fun _ => .slice none 0 0) ((w.alloc (.map #[] 0)).alloc (.map #[] 0))) := by rw [hS0]; exact R0.start w n Q
  have hd0 : Hid ((S 0).dead = false) := by rw [hS0]; exact (rfl : _ = _)
  clear hS0
  go_enter Try.func20, Try.ntmps20
  go_wp2_with fail
  go_loopw [32, 6, 7, 8, 9, 10] (fun kx p b x dd o wr => ∃ (i pb bb : Nat) (fp fb : Nat → Value) (dv ov : Nat → Value), kx = .int .i64 i ∧ i ≤ m ∧ p = .map (some pb) ∧ b = .map (some bb) ∧ dd = .bool (S i).dead ∧ Hid (R0 w n i (S i) Q pb bb (1000 * i) fp fb x dv o ov wr)) (fun kx _ _ _ _ _ _ => m - (intOf kx).toNat)
  case atStart => exact ⟨0, _, _, _, _, _, _, rfl, by omega, rfl, by simp, by rw [hd0.out], hR00⟩
  case round =>
    obtain ⟨i, pb, bb, fp, fb, dv, ov, rfl, hi, rfl, rfl, hdd, hR⟩ := hrel
    by_cases hlt : i < m
    · obtain ⟨b, off, rfl, hb, hc⟩ := hJH.out.2.1 (by omega)
      obtain ⟨hrI, hlc, hcm⟩ := hJH.out.2.2 i hlt
      obtain ⟨e0, e1, e2, e3⟩ := hc i hlt
      replace e0 := (hR.out.nn.cell hb).trans e0
      replace e1 := (hR.out.nn.cell hb).trans e1
      replace e2 := (hR.out.nn.cell hb).trans e2
      replace e3 := (hR.out.nn.cell hb).trans e3
      have hwl := (hin.out i).1
      have hil : (i : Int) < (m : Int) := by omega
      have he := hst.out i
      obtain ⟨k, hk⟩ : ∃ k, Hid (k = K i) := ⟨_, rfl⟩
      obtain ⟨a, ha⟩ : ∃ a, Hid (a = B i) := ⟨_, rfl⟩
      obtain ⟨pp, hpp⟩ : ∃ pp, Hid (pp = P i) := ⟨_, rfl⟩
      obtain ⟨JA, hJA⟩ : ∃ JA, Hid (JA = R i) := ⟨_, rfl⟩
      obtain ⟨l, hl⟩ : ∃ l, Hid (l = L i) := ⟨_, rfl⟩
      obtain ⟨jc, hjc⟩ : ∃ jc, Hid (jc = C i) := ⟨_, rfl⟩
      obtain ⟨dd, hdD⟩ : ∃ dd, Hid (dd = D i) := ⟨_, rfl⟩
      rw [← hk.out, ← ha.out, ← hpp.out, ← hl.out, ← hdD.out] at he
      rw [← hk.out] at e0
      rw [← ha.out] at e1
      rw [← hpp.out] at e2
      rw [← hJA.out, ← hl.out, ← hjc.out] at e3
      rw [← hJA.out, ← hl.out, ← hdD.out] at hrI
      rw [← hl.out, ← hjc.out] at hlc
      rw [← hjc.out] at hcm
      obtain ⟨s, hs⟩ : ∃ s, Hid (s = S i) := ⟨_, rfl⟩
      obtain ⟨s', hs'⟩ : ∃ s', Hid (s' = S (i + 1)) := ⟨_, rfl⟩
      rw [← hs.out, ← hs'.out] at he
      rw [← hs.out] at hwl hR hdd
      have heH := Lib.hid he
      have hrIH := Lib.hid hrI
      clear he hrI hc
      subst hdd
      go_upto_region 14 with fail
      obtain ⟨W2, hW2⟩ : ∃ W2, W2 = (wr.alloc (.cells #[.int .i64 k, .int .i64 a, .int .i64 pp, .slice JA l jc] 93)).alloc (.cells #[.int .i64 0, .slice none 0 0] 95) := ⟨_, rfl⟩
      rw [← hW2]
      have hn2 : New wr W2 := by rw [hW2]; exact ((New.refl wr).alloc _).alloc _
      have hR2 := Lib.hid (hR.out.new hn2)
      have bJ : Blk W2 wr.heap.size 93 #[.int .i64 k, .int .i64 a, .int .i64 pp, .slice JA l jc] := by rw [hW2]; exact (Blk.fresh wr _ _).alloc _
      have bR : Hid (Blk W2 (wr.heap.size + 1) 95 #[.int .i64 0, .slice none 0 0]) := by
        have := Blk.fresh (wr.alloc (.cells #[.int .i64 k, .int .i64 a, .int .i64 pp, .slice JA l jc] 93)) 95 #[.int .i64 0, .slice none 0 0]
        show Blk _ _ _ _
        rw [hW2]
        simpa using this
      have hno : u10.ownBlock ≠ some (wr.heap.size + 1) := fun he => by have := (hR.out.oo.lt _ he).2; omega
      have hnoH := Lib.hid hno
      have hlo := hR.out.nn.size
      have hsz2 : wr.heap.size + 1 < W2.heap.size := by rw [hW2]; simp
      have hrd := Lib.hid (hrIH.out.new hR2.out.nn)
      clear hW2 e0 e1 e2 e3 hR hn2 hno
      have bJH := Lib.hid bJ
      have hwlH := Lib.hid hwl
      go_cut [14] (fun pb14 wx => pb14 = .bool (decide (placedP k)) ∧ wx = W2)
      case first =>
        have d0 := bJ.cell 0
        simp at d0
        by_cases k1 : k = 1
        · subst k1
          as_aux_lemma =>
            go_wp2
            go_meet
            exact ⟨rfl, rfl⟩
        by_cases k2 : k = 2
        · subst k2
          as_aux_lemma =>
            go_wp2
            go_meet
            exact ⟨rfl, rfl⟩
        by_cases k5 : k = 5
        · subst k5
          as_aux_lemma =>
            go_wp2
            go_meet
            exact ⟨rfl, rfl⟩
        by_cases k6 : k = 6
        · subst k6
          as_aux_lemma =>
            go_wp2
            go_meet
            exact ⟨rfl, rfl⟩
        have e : Hid (decide (placedP k) = false) := by
          show _ = _
          rw [decide_eq_false_iff_not]
          unfold placedP
          omega
        replace k1 : (k == 1) = false := by simp; omega
        replace k2 : (k == 2) = false := by simp; omega
        replace k5 : (k == 5) = false := by simp; omega
        replace k6 : (k == 6) = false := by simp; omega
        as_aux_lemma =>
          go_wp2
          go_meet
          exact ⟨by rw [e.out], rfl⟩
      obtain ⟨hpl, hwc⟩ := hcut
      rw [hpl, hwc]
      clear hpl hwc
      clear wc
      obtain ⟨pl, hpl⟩ : ∃ pl, Hid (pl = decide (placedP k)) := ⟨_, rfl⟩
      rw [← hpl.out]
      go_upto_block 2 with fail
      go_cut [6, 7, 8, 9] (fun p b x dd wx => CutP w n i s' Q wr.heap.size u10 ov p b x dd wx)
      case first =>
        obtain ⟨wO, hwO⟩ : ∃ wO, wO = wr := ⟨_, rfl⟩
        subst hwO
        obtain ⟨wv, hwv⟩ : ∃ wv, wv = u8 := ⟨_, rfl⟩
        subst hwv
        have d0 := bJ.cell 0
        have d1 := bJ.cell 1
        have d2 := bJ.cell 2
        have d3 := bJ.cell 3
        have x0 := bR.out.cell 0
        have x1 := bR.out.cell 1
        have y0 := bR.out.frozen 0
        have y1 := bR.out.frozen 1
        simp at d0 d1 d2 d3 x0 x1
        obtain ⟨dd', hdd'⟩ : ∃ x, Hid (x = s.dead) := ⟨_, rfl⟩
        rw [← hdd'.out]
        clear bJ hwl
        go_upto_region 19 with fail
        go_cut [56] (fun q wx => q = .bool (decide (k < 1 ∨ 8 < k)) ∧ wx = W2)
        case first =>
          by_cases k1 : k < 1
          · have e : decide (k < 1 ∨ 8 < k) = true := decide_eq_true (.inl k1)
            as_aux_lemma =>
              go_wp2
              go_meet
              exact ⟨by rw [e], rfl⟩
          · by_cases k8 : 8 < k
            · have e : decide (k < 1 ∨ 8 < k) = true := decide_eq_true (.inr k8)
              as_aux_lemma =>
                go_wp2
                go_meet
                exact ⟨by rw [e], rfl⟩
            · have e : decide (k < 1 ∨ 8 < k) = false := decide_eq_false (by omega)
              as_aux_lemma =>
                go_wp2
                go_meet
                exact ⟨by rw [e], rfl⟩
        obtain ⟨hq, hwc⟩ := hcut
        rw [hq, hwc]
        clear hq hwc wc
        by_cases hkb : k < 1 ∨ 8 < k
        · have e : Hid ((s, (3 : Int), (none : Option (Nat → Nat))) = (s', Q i)) := step_no heH.out (fault_kind hkb) (by decide)
          rw [decide_eq_true hkb]
          clear hkb
          as_aux_lemma =>
            go_wp2
            go_meet
            rw [hdd'.out]
            exact CutP.fault hR2.out (by omega) bR.out hnoH.out hlo 3 e.out
        rw [decide_eq_false hkb]
        have hk18 : 1 ≤ k ∧ k ≤ 8 := by omega
        clear hkb
        go_upto_region 21 with fail
        go_cut [66] (fun q wx => q = .bool (decide (s.dead = true ∧ k ≠ 8)) ∧ wx = W2)
        case first =>
          cases dd' with
          | false =>
            have e : Hid (decide (s.dead = true ∧ k ≠ 8) = false) := decide_eq_false fun h => by rw [← hdd'.out] at h; cases h.1
            as_aux_lemma =>
              go_wp2
              go_meet
              exact ⟨by rw [e.out], rfl⟩
          | true =>
            by_cases k8 : k = 8
            · have e : Hid (decide (s.dead = true ∧ k ≠ 8) = false) := decide_eq_false fun h => h.2 k8
              subst k8
              as_aux_lemma =>
                go_wp2
                go_meet
                exact ⟨by rw [e.out], rfl⟩
            · have e : Hid (decide (s.dead = true ∧ k ≠ 8) = true) := decide_eq_true ⟨hdd'.out.symm, k8⟩
              have hk8 : (k != 8) = true := by simpa using k8
              as_aux_lemma =>
                go_wp2
                go_meet
                exact ⟨by rw [e.out], rfl⟩
        obtain ⟨hq, hwc⟩ := hcut
        rw [hq, hwc]
        clear hq hwc wc
        by_cases n2 : s.dead = true ∧ k ≠ 8
        · have e : Hid ((s, (13 : Int), (none : Option (Nat → Nat))) = (s', Q i)) := step_no heH.out (fault_dead hk18 n2) (by decide)
          rw [decide_eq_true n2]
          clear n2
          as_aux_lemma =>
            go_wp2
            go_meet
            rw [hdd'.out]
            exact CutP.fault hR2.out (by omega) bR.out hnoH.out hlo 13 e.out
        rw [decide_eq_false n2]
        have n2H := Lib.hid n2
        clear n2
        go_upto_region 23 with fail
        go_cut [74] (fun q wx => q = .bool (decide (placedP k ∧ (a < 0 ∨ (n : Int) ≤ a))) ∧ wx = W2)
        case first =>
          cases pl with
          | false =>
            have e : Hid (decide (placedP k ∧ (a < 0 ∨ (n : Int) ≤ a)) = false) := decide_eq_false fun h => by have := hpl.out; rw [decide_eq_true h.1] at this; cases this
            as_aux_lemma =>
              go_wp2
              go_meet
              exact ⟨by rw [e.out], rfl⟩
          | true =>
            have hpt := Lib.hid (of_decide_eq_true hpl.out.symm)
            by_cases a0 : a < 0
            · have e : Hid (decide (placedP k ∧ (a < 0 ∨ (n : Int) ≤ a)) = true) := decide_eq_true ⟨hpt.out, .inl a0⟩
              as_aux_lemma =>
                go_wp2
                go_meet
                exact ⟨by rw [e.out], rfl⟩
            by_cases a1 : (n : Int) ≤ a
            · have e : Hid (decide (placedP k ∧ (a < 0 ∨ (n : Int) ≤ a)) = true) := decide_eq_true ⟨hpt.out, .inr a1⟩
              as_aux_lemma =>
                go_wp2
                go_meet
                exact ⟨by rw [e.out], rfl⟩
            · have e : Hid (decide (placedP k ∧ (a < 0 ∨ (n : Int) ≤ a)) = false) := decide_eq_false fun h => by omega
              as_aux_lemma =>
                go_wp2
                go_meet
                exact ⟨by rw [e.out], rfl⟩
        obtain ⟨hq, hwc⟩ := hcut
        rw [hq, hwc]
        clear hq hwc wc
        by_cases n3 : placedP k ∧ (a < 0 ∨ (n : Int) ≤ a)
        · have e : Hid ((s, (2 : Int), (none : Option (Nat → Nat))) = (s', Q i)) := step_no heH.out (fault_range hk18 n2H.out n3) (by decide)
          rw [decide_eq_true n3]
          clear n3
          as_aux_lemma =>
            go_wp2
            go_meet
            rw [hdd'.out]
            exact CutP.fault hR2.out (by omega) bR.out hnoH.out hlo 2 e.out
        rw [decide_eq_false n3]
        have n3H := Lib.hid n3
        clear n3
        go_upto_region 25 with fail
        go_cut [88] (fun q wx => q = .bool (decide ((k = 1 ∨ k = 6) ∧ l ≠ 128)) ∧ wx = W2)
        case first =>
          have hl9 : (l : Int) ≤ 9223372036854775807 := by have := hrd.out.1; unfold maxLen at this; omega
          by_cases hl : l = 128
          · have e : Hid (decide ((k = 1 ∨ k = 6) ∧ l ≠ 128) = false) := decide_eq_false fun h => h.2 hl
            have hl2 : ((l : Int) != 128) = false := by simp; omega
            clear hl
            by_cases k1 : k = 1
            · subst k1
              as_aux_lemma =>
                go_wp2
                go_meet
                exact ⟨by rw [e.out], rfl⟩
            by_cases k6 : k = 6
            · subst k6
              as_aux_lemma =>
                go_wp2
                go_meet
                exact ⟨by rw [e.out], rfl⟩
            · replace k1 : (k == 1) = false := by simp; omega
              replace k6 : (k == 6) = false := by simp; omega
              as_aux_lemma =>
                go_wp2
                go_meet
                exact ⟨by rw [e.out], rfl⟩
          · have hl2 : ((l : Int) != 128) = true := by simp; omega
            by_cases k1 : k = 1
            · subst k1
              have e : Hid (decide (((1 : Int) = 1 ∨ (1 : Int) = 6) ∧ l ≠ 128) = true) := decide_eq_true ⟨.inl rfl, hl⟩
              clear hl
              as_aux_lemma =>
                go_wp2
                go_meet
                exact ⟨by rw [e.out], rfl⟩
            by_cases k6 : k = 6
            · subst k6
              have e : Hid (decide (((6 : Int) = 1 ∨ (6 : Int) = 6) ∧ l ≠ 128) = true) := decide_eq_true ⟨.inr rfl, hl⟩
              clear hl
              as_aux_lemma =>
                go_wp2
                go_meet
                exact ⟨by rw [e.out], rfl⟩
            · have e : Hid (decide ((k = 1 ∨ k = 6) ∧ l ≠ 128) = false) := decide_eq_false fun h => by omega
              replace k1 : (k == 1) = false := by simp; omega
              replace k6 : (k == 6) = false := by simp; omega
              clear hl
              as_aux_lemma =>
                go_wp2
                go_meet
                exact ⟨by rw [e.out], rfl⟩
        obtain ⟨hq, hwc⟩ := hcut
        rw [hq, hwc]
        clear hq hwc wc
        by_cases n4 : (k = 1 ∨ k = 6) ∧ l ≠ 128
        · have e : Hid ((s, (1 : Int), (none : Option (Nat → Nat))) = (s', Q i)) := step_no heH.out (fault_len hk18 n2H.out n3H.out n4) (by decide)
          rw [decide_eq_true n4]
          clear n4
          as_aux_lemma =>
            go_wp2
            go_meet
            rw [hdd'.out]
            exact CutP.fault hR2.out (by omega) bR.out hnoH.out hlo 1 e.out
        rw [decide_eq_false n4]
        have hf0 : Hid (faultC n s.dead k a l = 0) := fault_none hk18 n2H.out n3H.out n4
        have hl128 : Hid (k = 1 ∨ k = 6 → l = 128) := fun h => Decidable.byContradiction fun hc => n4 ⟨h, hc⟩
        clear n4
        have hks : k = 1 ∨ k = 2 ∨ k = 3 ∨ k = 4 ∨ k = 5 ∨ k = 6 ∨ k = 7 ∨ k = 8 := by omega
        clear hk18
        rcases hks with rfl | rfl | rfl | rfl | rfl | rfl | rfl | rfl
        · skip
          have ha3 : ¬ (a < 0 ∨ (n : Int) ≤ a) := fun h => n3H.out ⟨by decide, h⟩
          have ha0 : 0 ≤ a := by omega
          obtain ⟨at_, rfl⟩ := Int.eq_ofNat_of_zero_le ha0
          have hat : at_ < n := by omega
          clear ha3 ha0
          have hl0 : l = 128 := hl128.out (by decide)
          subst hl0
          have e : Hid ((({ s with ws := s.ws ++ [(at_, dd)] } : DS), ((0 : Int), (none : Option (Nat → Nat)))) = (s', Q i)) := by
            show _ = _
            rw [← heH.out, step1 hf0.out]
            all_goals rfl
          obtain ⟨jb, jo, rfl, hjb, hjc⟩ := hrd.out.2 (by omega)
          obtain ⟨g5, c5, w5, hr5, hsd5, hn5⟩ := copy_run jb jc jo dd W2.drew 79 hjc
          have hN5 : New W2 w5 := (New.refl W2).drew.next hn5
          have hb5 := bJH.out.new hN5
          have t1 := hb5.cell 1
          simp at t1
          have hsd5H := Lib.hid hsd5
          have hR5 := Lib.hid (hR2.out.new hN5)
          have bR5 := Lib.hid (bR.out.new hN5)
          have hwo5 := hR5.out.wo
          have t0 := ((New.refl w5).alloc (.cells #[.int .i64 0, .int .i64 at_, .int .i64 0, .slice (some ⟨g5, 0, none⟩) 128 c5] 93))
          have hsz5 := hN5.size
          have hlo5 : w.heap.size ≤ w5.heap.size := hR5.out.nn.size
          clear hsd5 hb5 hf0 hn5
          as_aux_lemma =>
            go_upto_region 28 with fail
            go_region_law (first
              | (refine step_append_run (by rfl) _ _ _ (by rfl) _ _ (by rfl) (by rfl) hr5 ?_)
              | (refine step_append_lies _ (by rfl) _ _ 38 (by rfl) w.heap.size 93 j0 _ 4 48 Try.underlying38 hj0 hy0 hy1 hy2 rfl (by decide) wv s.ws.length (jbL s.ws dv) (by rfl) (hwo5.alloc _) ⟨w5.heap.size, 0, none⟩ 1 1 [.int .i64 0, .int .i64 at_, .int .i64 0, .slice (some ⟨g5, 0, none⟩) 128 c5] (by rfl) (by rfl) (World.news_of_block (cs := #[.int .i64 _, .int .i64 _, .int .i64 _, .slice _ _ _]) (t := 93) (fr := (0, 0)) (heap_alloc_new w5 _)) (by simp [Value.oneCell']) (by omega) (by have := hwlH.out; unfold maxLen; omega) (by have := hwlH.out; omega) (by simp; omega) (w5.heap.size + 1) (by simp) ?_; intro g7 c7 w7 hown7 hgr7 hat7 hlt7))
            all_goals
              have hR6 := hR5.out.new t0
              have hR7 := Lib.hid (hR6.wait (q := (at_, dd)) (v := .slice (some ⟨g5, 0, none⟩) 128 c5) hgr7 hown7 (hsd5H.out.new t0) hat)
              have hbR7 := Lib.hid ((bR5.out.new t0).grown hgr7 (own_blk' hR6.wo (bR5.out.new t0) (by decide)))
              clear hown7 hgr7 hat7 hR6
              go_wp2
              go_meet
              rw [hdd'.out]
              exact CutP.ok (q := (0, none)) hR7.out (by omega) hbR7.out rfl e.out rfl
        · skip
          have ha3 : ¬ (a < 0 ∨ (n : Int) ≤ a) := fun h => n3H.out ⟨by decide, h⟩
          have ha0 : 0 ≤ a := by omega
          obtain ⟨at_, rfl⟩ := Int.eq_ofNat_of_zero_le ha0
          have hat : at_ < n := by omega
          clear ha3 ha0
          have e : Hid ((s, getS s at_) = (s', Q i)) := by
            show _ = _
            rw [← heH.out, step2 hf0.out]
            all_goals rfl
          obtain ⟨N, hN⟩ : ∃ N, s.ws.length = N := ⟨_, rfl⟩
          obtain ⟨wA, wk, rfl, hw1, hw2, hwA, _⟩ := own_open hR2.out.wo
          rw [hN] at hR2 hwA ⊢
          have hNi : N ≤ i := by rw [← hN]; exact hwlH.out
          have hNH := Lib.hid hN
          have hwAH := Lib.hid hwA
          clear hw1 hw2 hwA hN hf0
          have hmk : ∀ w : World, (Instr.makeSlice 79 (.int .i64 128) (.int .i64 128)).run Try.prog w = .ok (.slice (some ⟨w.heap.size, 0, none⟩) 128 128) (w.alloc (.cells (madeCells #[.int .u8 0] 128) 5)) := run_make_row' (P := Try.prog) 79 5 (.int .u8 0) 1 Try.underlying79 infoU8 rfl .i64 .i64 128 (by omega) (by omega)
          have hnb := fun w : World => Lib.run_eql_slice_nil (P := Try.prog) w 79 5 none 0 0 0 0 Try.underlying79
          have hnc := fun (w : World) (b c : Nat) => Lib.run_eql_slice_nil (P := Try.prog) w 79 5 (some ⟨b, 0, none⟩) 128 c 0 0 Try.underlying79
          go_upto_region 31 with fail
          obtain ⟨W4, hW4⟩ : ∃ W4, W4 = (W2.setCell ⟨wO.heap.size + 1, 1, none⟩ (.slice (some ⟨W2.heap.size, 0, none⟩) 128 128)).alloc (.cells (madeCells #[.int .u8 0] 128) 5) := ⟨_, rfl⟩
          rw [← hW4]
          have hga := grown_set W2 (wO.heap.size + 1) 1 (.slice (some ⟨W2.heap.size, 0, none⟩) 128 128)
          have hNa : New (W2.setCell ⟨wO.heap.size + 1, 1, none⟩ (.slice (some ⟨W2.heap.size, 0, none⟩) 128 128)) W4 := by rw [hW4]; exact (New.refl _).alloc _
          have hR4 : Hid (R0 w n i s Q pb bb (1000 * i) fp fb (.slice wA N wk) dv u10 ov W4) := R0.new (hR2.out.far bR.out (by decide) (by decide) hnoH.out (by omega) 1 _) hNa
          have bR4 : Hid (Blk W4 (wO.heap.size + 1) 95 #[.int .i64 0, .slice (some ⟨W2.heap.size, 0, none⟩) 128 128]) := Blk.new (bR.out.put 1 (.slice (some ⟨W2.heap.size, 0, none⟩) 128 128)) hNa
          have bJ4 : Hid (Blk W4 wO.heap.size 93 #[.int .i64 2, .int .i64 at_, .int .i64 pp, .slice JA l jc]) := Blk.new (bJH.out.grown hga fun e => by have := Option.some.inj e; omega) hNa
          have hS4 : Hid (Dat W4 (.slice (some ⟨W2.heap.size, 0, none⟩) 128 128) (some fun _ => 0)) := by
            refine ⟨W2.heap.size, 128, rfl, Nat.le_refl _, by unfold maxLen; omega, ?_⟩
            have h1 := World.rowIs_made (W2.setCell ⟨wO.heap.size + 1, 1, none⟩ (.slice (some ⟨W2.heap.size, 0, none⟩) 128 128)) (.int .u8 0) 128 5
            have h2 := RowK.of_rowIs h1 (Nat.le_refl 128) (f := fun _ => 0) fun j hj => rfl
            rw [hW4]
            simpa using h2
          have hn24 : Hid (W2.heap.size ≤ W4.heap.size) := by show _ ≤ _; rw [hW4]; simp
          have x1 := bJ4.out.cell 1
          simp at x1
          clear hW4 hga hNa d0 d1 d2 d3 x0 y0 y1 hmk
          obtain ⟨fv, hfv⟩ : ∃ fv, Hid (fv = fp at_) := ⟨_, rfl⟩
          have hl4 : (Instr.lookup 97 (.map (some pb)) (.int .i64 at_) false).run Try.prog W4 = .ok fv W4 := by rw [hfv.out]; exact hR4.out.hp.lookup Try.underlying97 (zeroS _) at_ (by omega)
          have hD4 : Hid (Dat W4 fv (s.pl at_)) := by rw [hfv.out]; exact hR4.out.pd at_ hat
          obtain ⟨po, hpo⟩ : ∃ po, Hid (po = s.pl at_) := ⟨_, rfl⟩
          rw [← hpo.out] at hD4
          go_cut [127] (fun q wx => q = .bool po.isSome ∧ wx = W4)
          case first =>
            as_aux_lemma =>
              cases po with
              | none =>
                have hv : fv = .slice none 0 0 := hD4.out
                subst hv
                go_wp2
                go_meet
                exact ⟨rfl, rfl⟩
              | some F =>
                obtain ⟨vb, vc, hv, v1, v2, v3⟩ := hD4.out
                subst hv
                clear v3
                go_wp2
                go_meet
                exact ⟨rfl, rfl⟩
          obtain ⟨hq, hwc⟩ := hcut
          rw [hq, hwc]
          clear hq hwc
          clear wc
          go_upto_if 127 with fail
          go_cut [6] (fun p wx => p = .map (some pb) ∧ ∃ rv, Hid (R0 w n i s Q pb bb (1000 * i) fp fb (.slice wA N wk) dv u10 ov wx) ∧ Hid (Blk wx (wO.heap.size + 1) 95 #[.int .i64 0, rv]) ∧ Hid (Dat wx rv (some (orZ po))) ∧ Hid (Blk wx wO.heap.size 93 #[.int .i64 2, .int .i64 at_, .int .i64 pp, .slice JA l jc]))
          case first =>
            as_aux_lemma =>
              cases po with
              | none =>
                go_wp2
                go_meet
                exact ⟨rfl, _, hR4, bR4, hS4, bJ4⟩
              | some F =>
                obtain ⟨vb, vc, hv, v1, v2, v3⟩ := hD4.out
                subst hv
                obtain ⟨g5, c5, w5, hr5, hsd5, hn5⟩ := copy_run vb vc 0 F W4 79 (fun j hj => by rw [Nat.zero_add]; exact v3.cell hj)
                have hR5 := Lib.hid (hR4.out.new hn5)
                have bR5 := bR4.out.new hn5
                have bJ5 := Lib.hid (bJ4.out.new hn5)
                have f1 := bR5.frozen 1
                have q1 := bR5.cell 1
                simp at q1
                have hg6 := grown_set w5 (wO.heap.size + 1) 1 (.slice (some ⟨g5, 0, none⟩) 128 c5)
                have bR6 : Hid (Blk (w5.setCell ⟨wO.heap.size + 1, 1, none⟩ (.slice (some ⟨g5, 0, none⟩) 128 c5)) (wO.heap.size + 1) 95 #[.int .i64 0, .slice (some ⟨g5, 0, none⟩) 128 c5]) := bR5.put 1 (.slice (some ⟨g5, 0, none⟩) 128 c5)
                have hR6 : Hid (R0 w n i s Q pb bb (1000 * i) fp fb (.slice wA N wk) dv u10 ov (w5.setCell ⟨wO.heap.size + 1, 1, none⟩ (.slice (some ⟨g5, 0, none⟩) 128 c5))) := hR5.out.far bR5 (by decide) (by decide) hnoH.out (by omega) 1 _
                have hS6 : Hid (Dat (w5.setCell ⟨wO.heap.size + 1, 1, none⟩ (.slice (some ⟨g5, 0, none⟩) 128 c5)) (.slice (some ⟨g5, 0, none⟩) 128 c5) (some F)) := Sd.grown hsd5 hg6 fun b f hr e => RowK.ne_blk hr bR5 (by decide) (Option.some.inj e)
                have bJ6 : Hid (Blk (w5.setCell ⟨wO.heap.size + 1, 1, none⟩ (.slice (some ⟨g5, 0, none⟩) 128 c5)) wO.heap.size 93 #[.int .i64 2, .int .i64 at_, .int .i64 pp, .slice JA l jc]) := bJ5.out.grown hg6 fun e => by have := Option.some.inj e; omega
                clear v3 hsd5 bR5 hg6 hn5
                go_wp2_with (at_builtin; refine wpList_append_run rfl _ _ _ rfl _ _ rfl rfl hr5 ?_)
                go_meet
                exact ⟨rfl, _, hR6, bR6, hS6, bJ6⟩
          obtain ⟨hq, rv6, hR6, bR6, hS6, bJ6⟩ := hcut
          rw [hq]
          obtain ⟨W6, hW6⟩ : ∃ W6, W6 = wc := ⟨_, rfl⟩
          subst hW6
          clear hq hR4 bR4 hS4 bJ4 hl4 hD4 x1
          have hl6 : (Instr.lookup 98 (.map (some bb)) (.int .i64 at_) false).run Try.prog W6 = .ok (.int .i64 (if s.br at_ = true then 1 else 0)) W6 := by
            rw [← hR6.out.bd at_ hat]
            exact hR6.out.hb.lookup Try.underlying98 (zeroI _) at_ (by omega)
          have x1 := bJ6.out.cell 1
          simp at x1
          obtain ⟨bo, hbo⟩ : ∃ bo, Hid (bo = s.br at_) := ⟨_, rfl⟩
          rw [← hbo.out] at hl6
          go_upto_region 33 with fail
          go_cut [138] (fun q wx => q = .bool bo ∧ wx = W6)
          case first =>
            as_aux_lemma =>
              cases bo with
              | false =>
                have hl7 : (Instr.lookup 98 (.map (some bb)) (.int .i64 at_) false).run Try.prog W6 = .ok (.int .i64 0) W6 := hl6
                clear hl6
                go_wp2
                go_meet
                exact ⟨rfl, rfl⟩
              | true =>
                have hl7 : (Instr.lookup 98 (.map (some bb)) (.int .i64 at_) false).run Try.prog W6 = .ok (.int .i64 1) W6 := hl6
                clear hl6
                go_wp2
                go_meet
                exact ⟨rfl, rfl⟩
          obtain ⟨hq, hwc⟩ := hcut
          rw [hq, hwc]
          clear hq hwc
          clear wc
          go_upto_if 138 with fail
          go_cut [7] (fun p wx => p = .map (some bb) ∧ ∃ c rv, Hid (R0 w n i s Q pb bb (1000 * i) fp fb (.slice wA N wk) dv u10 ov wx) ∧ Hid (Blk wx (wO.heap.size + 1) 95 #[.int .i64 c, rv]) ∧ Hid (c = (plateR s at_).1) ∧ Hid (Dat wx rv (plateR s at_).2) ∧ Hid (Blk wx wO.heap.size 93 #[.int .i64 2, .int .i64 at_, .int .i64 pp, .slice JA l jc]))
          case first =>
            as_aux_lemma =>
              cases bo with
              | false =>
                have hpr : Hid (plateR s at_ = (0, some (orZ po))) := by show _ = _; unfold plateR; rw [if_neg (by rw [← hbo.out]; decide), hpo.out]; rfl
                have hS7 : Hid (Dat W6 rv6 (plateR s at_).2) := by rw [hpr.out]; exact hS6.out
                have hc7 : Hid ((0 : Int) = (plateR s at_).1) := by show _ = _; rw [hpr.out]
                go_wp2
                go_meet
                exact ⟨rfl, _, _, hR6, bR6, hc7, hS7, bJ6⟩
              | true =>
                have hpr : Hid (plateR s at_ = (12, none)) := by show _ = _; unfold plateR; rw [if_pos hbo.out.symm]
                have p0 := bR6.out.cell 0
                have p1 := bR6.out.cell 1
                have p2 := bR6.out.frozen 0
                have p3 := bR6.out.frozen 1
                simp at p0 p1
                have hR7 : Hid (R0 w n i s Q pb bb (1000 * i) fp fb (.slice wA N wk) dv u10 ov ((W6.setCell ⟨wO.heap.size + 1, 0, none⟩ (.int .i64 12)).setCell ⟨wO.heap.size + 1, 1, none⟩ (.slice none 0 0))) := (hR6.out.far bR6.out (by decide) (by decide) hnoH.out (by omega) 0 _).far (bR6.out.put 0 (.int .i64 12)) (by decide) (by decide) hnoH.out (by omega) 1 _
                have bR7 : Hid (Blk ((W6.setCell ⟨wO.heap.size + 1, 0, none⟩ (.int .i64 12)).setCell ⟨wO.heap.size + 1, 1, none⟩ (.slice none 0 0)) (wO.heap.size + 1) 95 #[.int .i64 12, .slice none 0 0]) := (bR6.out.put 0 (.int .i64 12)).put 1 (.slice none 0 0)
                have bJ7 : Hid (Blk ((W6.setCell ⟨wO.heap.size + 1, 0, none⟩ (.int .i64 12)).setCell ⟨wO.heap.size + 1, 1, none⟩ (.slice none 0 0)) wO.heap.size 93 #[.int .i64 2, .int .i64 at_, .int .i64 pp, .slice JA l jc]) := (bJ6.out.far (p := ⟨wO.heap.size + 1, 0, none⟩) (by simp) _).far (p := ⟨wO.heap.size + 1, 1, none⟩) (by simp) _
                have hc7 : Hid ((12 : Int) = (plateR s at_).1) := by show _ = _; rw [hpr.out]
                have hS7 : Hid (Dat ((W6.setCell ⟨wO.heap.size + 1, 0, none⟩ (.int .i64 12)).setCell ⟨wO.heap.size + 1, 1, none⟩ (.slice none 0 0)) (.slice none 0 0) (plateR s at_).2) := by rw [hpr.out]; exact (rfl : _ = _)
                go_wp2
                go_meet
                exact ⟨rfl, _, _, hR7, bR7, hc7, hS7, bJ7⟩
          obtain ⟨hq, c8, rv8, hR8, bR8, hc8, hS8, bJ8⟩ := hcut
          rw [hq]
          obtain ⟨W8, hW8⟩ : ∃ W8, W8 = wc := ⟨_, rfl⟩
          subst hW8
          clear hq hR6 bR6 hS6 bJ6 hl6 x1
          clear hbo hpo hfv hn24
          obtain ⟨G, hG⟩ : ∃ G : Nat → Int × Option (Nat → Nat), Hid (G = fun q => match lastN at_ s.ws q with | some d => (0, some d) | none => plateR s at_) := ⟨_, rfl⟩
          have hc9 : Hid (c8 = (G 0).1) := by show _ = _; rw [hG.out]; exact hc8.out
          have hS9 : Hid (Dat W8 rv8 (G 0).2) := by rw [hG.out]; exact hS8.out
          have heG : Hid ((s, G N) = (s', Q i)) := by show _ = _; rw [← e.out, hG.out, ← hNH.out]; rfl
          go_upto_region 35 with fail
          as_aux_lemma =>
            go_wp2_with fail
            go_loopw [142] (fun x wx => ∃ (q : Nat) (c : Int) (rv : Value), x = .int .i64 q ∧ q ≤ N ∧ Hid (R0 w n i s Q pb bb (1000 * i) fp fb (.slice wA N wk) dv u10 ov wx) ∧ Hid (Blk wx (wO.heap.size + 1) 95 #[.int .i64 c, rv]) ∧ Hid (c = (G q).1) ∧ Hid (Dat wx rv (G q).2) ∧ Hid (Blk wx wO.heap.size 93 #[.int .i64 2, .int .i64 at_, .int .i64 pp, .slice JA l jc])) (fun x _ => N - (intOf x).toNat)
            case atStart => exact ⟨0, _, _, rfl, by omega, hR8, bR8, hc9, hS9, bJ8⟩
            case round =>
              obtain ⟨q, c, rv, rfl, hq, hR3, bR3, hc3, hS3, bJ3⟩ := hrel
              by_cases hqN : q < N
              · obtain ⟨gw, rfl, _⟩ := hwAH.out (by omega)
                have hwo3 := hR3.out.wo
                have hwd3 := hR3.out.wd q (by rw [hNH.out]; exact hqN)
                obtain ⟨k0, k1, k2, k3⟩ := jbL_at s.ws dv (by rw [hNH.out]; exact hqN)
                obtain ⟨qq, hqq⟩ : ∃ qq, Hid (qq = s.ws.getD q noP) := ⟨_, rfl⟩
                rw [← hqq.out] at hwd3 k1
                have z0 := hwo3.cells (g := gw) rfl (q * 4) _ k0
                have z1 := hwo3.cells (g := gw) rfl (q * 4 + 1) _ k1
                have z2 := hwo3.cells (g := gw) rfl (q * 4 + 2) _ k2
                have z3 := hwo3.cells (g := gw) rfl (q * 4 + 3) _ k3
                rw [add_cell] at z0 z1 z2 z3
                simp only [Nat.zero_add] at z0 z1 z2 z3
                obtain ⟨sb, sc, hsv, hs1, hs2, hs3⟩ := hwd3
                rw [hsv] at z3
                obtain ⟨q1, q2⟩ := qq
                have hs3H := Lib.hid hs3
                have hq2N : (q : Int) < (N : Int) := by omega
                clear hwo3 k0 k1 k2 k3 hs3 hsv
                go_upto_region 38 with fail
                obtain ⟨W5, hW5⟩ : ∃ W5, W5 = wr.alloc (.cells #[.int .i64 0, .int .i64 q1, .int .i64 0, .slice (some ⟨sb, 0, none⟩) 128 sc] 93) := ⟨_, rfl⟩
                rw [← hW5]
                have hN5 : New wr W5 := by rw [hW5]; exact (New.refl wr).alloc _
                have bX : Blk W5 wr.heap.size 93 #[.int .i64 0, .int .i64 q1, .int .i64 0, .slice (some ⟨sb, 0, none⟩) 128 sc] := by rw [hW5]; exact Blk.fresh wr _ _
                have hR5 := Lib.hid (hR3.out.new hN5)
                have bJ5 := Lib.hid (bJ3.out.new hN5)
                have bR5 := Lib.hid (bR3.out.new hN5)
                have hS5 := Lib.hid (hS3.out.new hN5)
                have hs5 := Lib.hid (hs3H.out.new hN5)
                have m1 := bX.cell 1
                have m3 := bX.cell 3
                have m4 := bJ5.out.cell 1
                simp at m1 m3 m4
                clear hW5 z0 z1 z2 z3 bX hN5
                by_cases hqa : q1 = at_
                · subst hqa
                  have hGn : Hid (G (q + 1) = (0, some q2)) := by show _ = _; rw [hG.out]; show (match lastN q1 s.ws (q + 1) with | some d => ((0 : Int), some d) | none => plateR s q1) = _; rw [lastN, ← hqq.out, if_pos rfl]
                  obtain ⟨g6, c6, w6, hr6, hsd6, hn6⟩ := copy_run sb sc 0 q2 W5 79 (fun j hj => by rw [Nat.zero_add]; exact hs5.out.cell hj)
                  have hR6 := hR5.out.new hn6
                  have bR6 := bR5.out.new hn6
                  have bJ6 := bJ5.out.new hn6
                  have p0 := bR6.cell 0
                  have p1 := bR6.cell 1
                  have p2 := bR6.frozen 0
                  have p3 := bR6.frozen 1
                  simp at p0 p1
                  have hg6 := grown_set w6 (wO.heap.size + 1) 0 (.int .i64 0)
                  have bR7 := bR6.put 0 (.int .i64 0)
                  have hg7 := grown_set (w6.setCell ⟨wO.heap.size + 1, 0, none⟩ (.int .i64 0)) (wO.heap.size + 1) 1 (.slice (some ⟨g6, 0, none⟩) 128 c6)
                  have hR8 : Hid (R0 w n i s Q pb bb (1000 * i) fp fb (.slice (some ⟨gw, 0, none⟩) N wk) dv u10 ov ((w6.setCell ⟨wO.heap.size + 1, 0, none⟩ (.int .i64 0)).setCell ⟨wO.heap.size + 1, 1, none⟩ (.slice (some ⟨g6, 0, none⟩) 128 c6))) := (hR6.far bR6 (by decide) (by decide) hnoH.out (by omega) 0 _).far bR7 (by decide) (by decide) hnoH.out (by omega) 1 _
                  have bR8 : Hid (Blk ((w6.setCell ⟨wO.heap.size + 1, 0, none⟩ (.int .i64 0)).setCell ⟨wO.heap.size + 1, 1, none⟩ (.slice (some ⟨g6, 0, none⟩) 128 c6)) (wO.heap.size + 1) 95 #[.int .i64 0, .slice (some ⟨g6, 0, none⟩) 128 c6]) := bR7.put 1 (.slice (some ⟨g6, 0, none⟩) 128 c6)
                  have bJ8 : Hid (Blk ((w6.setCell ⟨wO.heap.size + 1, 0, none⟩ (.int .i64 0)).setCell ⟨wO.heap.size + 1, 1, none⟩ (.slice (some ⟨g6, 0, none⟩) 128 c6)) wO.heap.size 93 #[.int .i64 2, .int .i64 q1, .int .i64 pp, .slice JA l jc]) := (bJ6.far (p := ⟨wO.heap.size + 1, 0, none⟩) (by simp) _).far (p := ⟨wO.heap.size + 1, 1, none⟩) (by simp) _
                  have hS8 : Hid (Dat ((w6.setCell ⟨wO.heap.size + 1, 0, none⟩ (.int .i64 0)).setCell ⟨wO.heap.size + 1, 1, none⟩ (.slice (some ⟨g6, 0, none⟩) 128 c6)) (.slice (some ⟨g6, 0, none⟩) 128 c6) (G (q + 1)).2) := by
                    rw [hGn.out]
                    exact Sd.grown (Sd.grown hsd6 hg6 fun b f hr e => RowK.ne_blk hr bR6 (by decide) (Option.some.inj e)) hg7 fun b f hr e => RowK.ne_blk hr bR7 (by decide) (Option.some.inj e)
                  have hc8' : Hid ((0 : Int) = (G (q + 1)).1) := by show _ = _; rw [hGn.out]
                  clear hsd6 hR6 bR6 bJ6 bR7 hg6 hg7 hn6
                  go_wp2_with (at_builtin; refine wpList_append_run rfl _ _ _ rfl _ _ rfl rfl hr6 ?_)
                  go_roundw
                  case rel => exact ⟨q + 1, _, _, by go_num, by omega, hR8, bR8, hc8', hS8, bJ8⟩
                  case measure => simp [intOf]; omega
                · have hne : ((q1 : Int) == (at_ : Int)) = false := by simp; omega
                  have hGn : Hid (G (q + 1) = G q) := by show _ = _; rw [hG.out]; show (match lastN at_ s.ws (q + 1) with | some d => ((0 : Int), some d) | none => plateR s at_) = _; rw [lastN, ← hqq.out, if_neg hqa]
                  have hc8' : Hid (c = (G (q + 1)).1) := by rw [hGn.out]; exact hc3
                  have hS8' : Hid (Dat W5 rv (G (q + 1)).2) := by rw [hGn.out]; exact hS5
                  clear hqa
                  go_wp2
                  go_roundw
                  case rel => exact ⟨q + 1, _, _, by go_num, by omega, hR5, bR5, hc8', hS8', bJ5⟩
                  case measure => simp [intOf]; omega
              · have hqe : q = N := by omega
                subst hqe
                have hcc := hc3.out
                subst hcc
                clear hqN hq
                go_wp2
                go_meet
                rw [hdd'.out]
                exact CutP.ok (q := G q) hR3.out (by omega) bR3.out hS3.out heG.out rfl
        · skip
          have e : Hid ((settleS (fun _ => true) s, ((0 : Int), (none : Option (Nat → Nat)))) = (s', Q i)) := by
            show _ = _
            rw [← heH.out, step3 hf0.out]
            all_goals rfl
          obtain ⟨N, hN⟩ : ∃ N, s.ws.length = N := ⟨_, rfl⟩
          obtain ⟨wA, wc, rfl, hw1, hw2, hwA, _⟩ := own_open hR2.out.wo
          rw [hN] at hR2 hwA ⊢
          have hNi : N ≤ i := by rw [← hN]; exact hwlH.out
          have hNH := Lib.hid hN
          have hwAH := Lib.hid hwA
          have hws := Lib.hid (settle_ws (fun _ => true) s)
          have hnp0 : Hid (1000 * i ≤ 1000 * i + 2 * 0) := Nat.le_refl _
          clear hw1 hw2 hwA hN hf0
          go_upto_region 42 with fail
          as_aux_lemma =>
            go_wp2_with fail
            go_loopw [167] (fun x wx => ∃ (q np : Nat) (fp' fb' : Nat → Value), x = .int .i64 q ∧ q ≤ N ∧ Hid (np ≤ 1000 * i + 2 * q) ∧ Hid (R0 w n i (settleN (fun _ => true) s q) Q pb bb np fp' fb' (.slice wA N wc) dv u10 ov wx) ∧ Hid (Blk wx wO.heap.size 93 #[.int .i64 3, .int .i64 a, .int .i64 pp, .slice JA l jc]) ∧ Hid (Blk wx (wO.heap.size + 1) 95 #[.int .i64 0, .slice none 0 0])) (fun x _ => N - (intOf x).toNat)
            case atStart => exact ⟨0, _, _, _, rfl, by omega, hnp0, hR2, bJH, bR⟩
            case round =>
              obtain ⟨q, np, fp', fb', rfl, hq, hnp, hR3, bJ3, bR3⟩ := hrel
              by_cases hqN : q < N
              · obtain ⟨gw, rfl, _⟩ := hwAH.out (by omega)
                have hwo3 := hR3.out.wo
                have hwd3 := hR3.out.wd q (by rw [hws.out, hNH.out]; exact hqN)
                have hwi3 := hR3.out.wi q (by rw [hws.out, hNH.out]; exact hqN)
                rw [hws.out] at hwo3 hwd3 hwi3
                obtain ⟨k0, k1, k2, k3⟩ := jbL_at s.ws dv (by rw [hNH.out]; exact hqN)
                obtain ⟨qq, hqq⟩ : ∃ qq, Hid (qq = s.ws.getD q noP) := ⟨_, rfl⟩
                rw [← hqq.out] at hwd3 hwi3 k1
                have z0 := hwo3.cells (g := gw) rfl (q * 4) _ k0
                have z1 := hwo3.cells (g := gw) rfl (q * 4 + 1) _ k1
                have z2 := hwo3.cells (g := gw) rfl (q * 4 + 2) _ k2
                have z3 := hwo3.cells (g := gw) rfl (q * 4 + 3) _ k3
                rw [add_cell] at z0 z1 z2 z3
                simp only [Nat.zero_add] at z0 z1 z2 z3
                obtain ⟨sb, sc, hsv, hs1, hs2, hs3⟩ := hwd3
                rw [hsv] at z3
                obtain ⟨q1, q2⟩ := qq
                have hsH : Hid (Sd wr (.slice (some ⟨sb, 0, none⟩) 128 sc) q2) := ⟨sb, sc, rfl, hs1, hs2, hs3⟩
                have hq1n : q1 < n := hwi3
                have hq2N : (q : Int) < (N : Int) := by omega
                have j0c := bJ3.out.cell 0
                have j2c := bJ3.out.cell 2
                simp at j0c j2c
                clear hwo3 k0 k1 k2 k3 hs3 hsv hwi3
                go_upto_region 45 with fail
                obtain ⟨W5, hW5⟩ : ∃ W5, W5 = wr.alloc (.cells #[.int .i64 0, .int .i64 q1, .int .i64 0, .slice (some ⟨sb, 0, none⟩) 128 sc] 93) := ⟨_, rfl⟩
                rw [← hW5]
                have hN5 : New wr W5 := by rw [hW5]; exact (New.refl wr).alloc _
                have bX : Blk W5 wr.heap.size 93 #[.int .i64 0, .int .i64 q1, .int .i64 0, .slice (some ⟨sb, 0, none⟩) 128 sc] := by rw [hW5]; exact Blk.fresh wr _ _
                have j0d := (hN5.cell (lt_of_cell j0c)).trans j0c
                have j2d := (hN5.cell (lt_of_cell j2c)).trans j2c
                have hN6 : New wr W5.drew := hN5.next (New.refl W5).drew
                have hR6 := Lib.hid (hR3.out.new hN6)
                have bJ6 := Lib.hid (bJ3.out.new hN6)
                have bR6 := Lib.hid (bR3.out.new hN6)
                have bX6 := Lib.hid (bX.new (New.refl W5).drew)
                clear hW5 z0 z1 z2 z3 j0c j2c
                go_region
                obtain ⟨W6, hW6⟩ : ∃ W6, W6 = W5.drew := ⟨_, rfl⟩
                rw [← hW6]
                rw [← hW6] at hR6 bJ6 bR6 bX6
                have hS6 := Lib.hid (hsH.out.new (show New wr W6 by rw [hW6]; exact hN6))
                clear hW6 bX j0d j2d hN5 hN6
                have x1 := bX6.out.cell 1
                have x3 := bX6.out.cell 3
                simp at x1 x3
                have hx : Hid (settleN (fun _ => true) s (q + 1) = putP (settleN (fun _ => true) s q) (q1, q2)) := by show _ = _; rw [settleN, if_pos (by rfl), ← hqq.out]
                obtain ⟨w7, hr7, hm7, hg7⟩ := hR6.out.hp.update Try.underlying97 (by have := hnp.out; unfold maxLen; omega) q1 (by omega) (.slice (some ⟨sb, 0, none⟩) 128 sc)
                have hR7 := Lib.hid (hR6.out.setP hg7 hm7 hS6.out)
                have bJ7 := bJ6.out.grown hg7 fun e => map_ne_blk hR6.out.hp bJ6.out (Option.some.inj e).symm
                have bR7 := bR6.out.grown hg7 fun e => map_ne_blk hR6.out.hp bR6.out (Option.some.inj e).symm
                have bX7 := bX6.out.grown hg7 fun e => map_ne_blk hR6.out.hp bX6.out (Option.some.inj e).symm
                obtain ⟨w8, hr8, hm8, hg8⟩ := hR7.out.hb.update Try.underlying98 (by have := hnp.out; unfold maxLen; omega) q1 (by omega) (.int .i64 0)
                obtain ⟨fp8, fb8, hR8⟩ : ∃ fp8 fb8, Hid (R0 w n i (settleN (fun _ => true) s (q + 1)) Q pb bb (np + 1 + 1) fp8 fb8 (.slice (some ⟨gw, 0, none⟩) N wc) dv u10 ov w8) := by rw [hx.out]; exact ⟨_, _, hR7.out.setB (b := false) hg8 hm8⟩
                have bJ8 := Lib.hid (bJ7.grown hg8 fun e => map_ne_blk hR7.out.hb bJ7 (Option.some.inj e).symm)
                have bR8 := Lib.hid (bR7.grown hg8 fun e => map_ne_blk hR7.out.hb bR7 (Option.some.inj e).symm)
                have x1' := bX7.cell 1
                simp at x1'
                have hnp8 : Hid (np + 1 + 1 ≤ 1000 * i + 2 * (q + 1)) := by have := hnp.out; show _ ≤ _; omega
                clear hm7 hg7 hm8 hg8 bJ7 bR7 bX7
                go_wp2_with (first | (at_mapUpdate; refine wpList_mapUpdate_run rfl _ _ _ _ rfl _ _ _ rfl rfl rfl hr7 ?_) | (at_mapUpdate; refine wpList_mapUpdate_run rfl _ _ _ _ rfl _ _ _ rfl rfl rfl hr8 ?_))
                go_roundw
                case rel => exact ⟨q + 1, _, _, _, by go_num, by omega, hnp8, hR8, bJ8, bR8⟩
                case measure => simp [intOf]; omega
              · have hqe : q = N := by omega
                subst hqe
                have hR9 : Hid (R0 w n i (settleN (fun _ => true) s s.ws.length) Q pb bb np fp' fb' (.slice wA q wc) dv u10 ov wr) := by rw [hNH.out]; exact hR3.out
                clear hqN hq
                go_wp2
                go_meet
                exact CutP.ok (q := (0, none)) hR9.out.idle (by have := hnp.out; omega) bR3.out rfl e.out (by show _ = Value.bool (settleN (fun _ => true) s s.ws.length).dead; rw [settle_dead, hdd'.out])
        · skip
          have e : Hid ((settleS (bitP pp) s, ((0 : Int), (none : Option (Nat → Nat)))) = (s', Q i)) := by
            show _ = _
            rw [← heH.out, step4 hf0.out]
            all_goals rfl
          obtain ⟨N, hN⟩ : ∃ N, s.ws.length = N := ⟨_, rfl⟩
          obtain ⟨wA, wc, rfl, hw1, hw2, hwA, _⟩ := own_open hR2.out.wo
          rw [hN] at hR2 hwA ⊢
          have hNi : N ≤ i := by rw [← hN]; exact hwlH.out
          have hNH := Lib.hid hN
          have hwAH := Lib.hid hwA
          have hws := Lib.hid (settle_ws (bitP pp) s)
          have hnp0 : Hid (1000 * i ≤ 1000 * i + 2 * 0) := Nat.le_refl _
          clear hw1 hw2 hwA hN hf0
          go_upto_region 42 with fail
          as_aux_lemma =>
            go_wp2_with fail
            go_loopw [167] (fun x wx => ∃ (q np : Nat) (fp' fb' : Nat → Value), x = .int .i64 q ∧ q ≤ N ∧ Hid (np ≤ 1000 * i + 2 * q) ∧ Hid (R0 w n i (settleN (bitP pp) s q) Q pb bb np fp' fb' (.slice wA N wc) dv u10 ov wx) ∧ Hid (Blk wx wO.heap.size 93 #[.int .i64 4, .int .i64 a, .int .i64 pp, .slice JA l jc]) ∧ Hid (Blk wx (wO.heap.size + 1) 95 #[.int .i64 0, .slice none 0 0])) (fun x _ => N - (intOf x).toNat)
            case atStart => exact ⟨0, _, _, _, rfl, by omega, hnp0, hR2, bJH, bR⟩
            case round =>
              obtain ⟨q, np, fp', fb', rfl, hq, hnp, hR3, bJ3, bR3⟩ := hrel
              by_cases hqN : q < N
              · obtain ⟨gw, rfl, _⟩ := hwAH.out (by omega)
                have hwo3 := hR3.out.wo
                have hwd3 := hR3.out.wd q (by rw [hws.out, hNH.out]; exact hqN)
                have hwi3 := hR3.out.wi q (by rw [hws.out, hNH.out]; exact hqN)
                rw [hws.out] at hwo3 hwd3 hwi3
                obtain ⟨k0, k1, k2, k3⟩ := jbL_at s.ws dv (by rw [hNH.out]; exact hqN)
                obtain ⟨qq, hqq⟩ : ∃ qq, Hid (qq = s.ws.getD q noP) := ⟨_, rfl⟩
                rw [← hqq.out] at hwd3 hwi3 k1
                have z0 := hwo3.cells (g := gw) rfl (q * 4) _ k0
                have z1 := hwo3.cells (g := gw) rfl (q * 4 + 1) _ k1
                have z2 := hwo3.cells (g := gw) rfl (q * 4 + 2) _ k2
                have z3 := hwo3.cells (g := gw) rfl (q * 4 + 3) _ k3
                rw [add_cell] at z0 z1 z2 z3
                simp only [Nat.zero_add] at z0 z1 z2 z3
                obtain ⟨sb, sc, hsv, hs1, hs2, hs3⟩ := hwd3
                rw [hsv] at z3
                obtain ⟨q1, q2⟩ := qq
                have hsH : Hid (Sd wr (.slice (some ⟨sb, 0, none⟩) 128 sc) q2) := ⟨sb, sc, rfl, hs1, hs2, hs3⟩
                have hq1n : q1 < n := hwi3
                have hq2N : (q : Int) < (N : Int) := by omega
                have j0c := bJ3.out.cell 0
                have j2c := bJ3.out.cell 2
                simp at j0c j2c
                clear hwo3 k0 k1 k2 k3 hs3 hsv hwi3
                obtain ⟨sh, hsh⟩ : ∃ sh : Nat, Hid (sh = q % 62) := ⟨_, rfl⟩
                have hsi : (q : Int) % 62 = (sh : Int) := by rw [hsh.out]; omega
                have hs0 : (0 : Int) ≤ (sh : Int) := by omega
                have hs64 : (sh : Int) ≤ 64 := by have := hsh.out; omega
                have hsn : min sh 64 = sh := by have := hsh.out; omega
                have hsl : sh < 62 := by have := hsh.out; omega
                have hpw : IntKind.i64.wrap ((1 : Int) * 2 ^ sh) = 2 ^ sh := one_shl sh hsl
                have hpw2 : IntKind.i64.wrap ((2 : Int) ^ sh) = 2 ^ sh := by have := one_shl sh hsl; rwa [Int.one_mul] at this
                obtain ⟨bt, hbt⟩ : ∃ bt, Hid (bt = bitP pp q) := ⟨_, rfl⟩
                have hand : (bits .and .i64 pp (2 ^ sh) != 0) = bt := by
                  rw [and_pow pp sh hsl, hbt.out]
                  unfold bitP
                  rw [hsh.out]
                go_upto_region 45 with fail
                obtain ⟨W5, hW5⟩ : ∃ W5, W5 = wr.alloc (.cells #[.int .i64 0, .int .i64 q1, .int .i64 0, .slice (some ⟨sb, 0, none⟩) 128 sc] 93) := ⟨_, rfl⟩
                rw [← hW5]
                have hN5 : New wr W5 := by rw [hW5]; exact (New.refl wr).alloc _
                have bX : Blk W5 wr.heap.size 93 #[.int .i64 0, .int .i64 q1, .int .i64 0, .slice (some ⟨sb, 0, none⟩) 128 sc] := by rw [hW5]; exact Blk.fresh wr _ _
                have j0d := (hN5.cell (lt_of_cell j0c)).trans j0c
                have j2d := (hN5.cell (lt_of_cell j2c)).trans j2c
                have hN6 : New wr W5.drew := hN5.next (New.refl W5).drew
                have hR6 := Lib.hid (hR3.out.new hN6)
                have bJ6 := Lib.hid (bJ3.out.new hN6)
                have bR6 := Lib.hid (bR3.out.new hN6)
                have bX6 := Lib.hid (bX.new (New.refl W5).drew)
                clear hW5 z0 z1 z2 z3 j0c j2c
                go_region
                obtain ⟨W6, hW6⟩ : ∃ W6, W6 = W5.drew := ⟨_, rfl⟩
                rw [← hW6]
                rw [← hW6] at hR6 bJ6 bR6 bX6
                have hS6 := Lib.hid (hsH.out.new (show New wr W6 by rw [hW6]; exact hN6))
                clear hW6 bX j0d j2d hN5 hN6
                have x1 := bX6.out.cell 1
                have x3 := bX6.out.cell 3
                simp at x1 x3
                cases bt with
                | true =>
                  have hx : Hid (settleN (bitP pp) s (q + 1) = putP (settleN (bitP pp) s q) (q1, q2)) := by show _ = _; rw [settleN, if_pos (by rw [← hbt.out]), ← hqq.out]
                  obtain ⟨w7, hr7, hm7, hg7⟩ := hR6.out.hp.update Try.underlying97 (by have := hnp.out; unfold maxLen; omega) q1 (by omega) (.slice (some ⟨sb, 0, none⟩) 128 sc)
                  have hR7 := Lib.hid (hR6.out.setP hg7 hm7 hS6.out)
                  have bJ7 := bJ6.out.grown hg7 fun e => map_ne_blk hR6.out.hp bJ6.out (Option.some.inj e).symm
                  have bR7 := bR6.out.grown hg7 fun e => map_ne_blk hR6.out.hp bR6.out (Option.some.inj e).symm
                  have bX7 := bX6.out.grown hg7 fun e => map_ne_blk hR6.out.hp bX6.out (Option.some.inj e).symm
                  obtain ⟨w8, hr8, hm8, hg8⟩ := hR7.out.hb.update Try.underlying98 (by have := hnp.out; unfold maxLen; omega) q1 (by omega) (.int .i64 0)
                  obtain ⟨fp8, fb8, hR8⟩ : ∃ fp8 fb8, Hid (R0 w n i (settleN (bitP pp) s (q + 1)) Q pb bb (np + 1 + 1) fp8 fb8 (.slice (some ⟨gw, 0, none⟩) N wc) dv u10 ov w8) := by rw [hx.out]; exact ⟨_, _, hR7.out.setB (b := false) hg8 hm8⟩
                  have bJ8 := Lib.hid (bJ7.grown hg8 fun e => map_ne_blk hR7.out.hb bJ7 (Option.some.inj e).symm)
                  have bR8 := Lib.hid (bR7.grown hg8 fun e => map_ne_blk hR7.out.hb bR7 (Option.some.inj e).symm)
                  have x1' := bX7.cell 1
                  simp at x1'
                  have hnp8 : Hid (np + 1 + 1 ≤ 1000 * i + 2 * (q + 1)) := by have := hnp.out; show _ ≤ _; omega
                  clear hm7 hg7 hm8 hg8 bJ7 bR7 bX7
                  go_wp2_with (first | (at_mapUpdate; refine wpList_mapUpdate_run rfl _ _ _ _ rfl _ _ _ rfl rfl rfl hr7 ?_) | (at_mapUpdate; refine wpList_mapUpdate_run rfl _ _ _ _ rfl _ _ _ rfl rfl rfl hr8 ?_))
                  go_roundw
                  case rel => exact ⟨q + 1, _, _, _, by go_num, by omega, hnp8, hR8, bJ8, bR8⟩
                  case measure => simp [intOf]; omega
                | false =>
                  have hx : Hid (settleN (bitP pp) s (q + 1) = settleN (bitP pp) s q) := by show _ = _; rw [settleN, if_neg (by rw [← hbt.out]; decide)]
                  have hR8 : Hid (R0 w n i (settleN (bitP pp) s (q + 1)) Q pb bb np fp' fb' (.slice (some ⟨gw, 0, none⟩) N wc) dv u10 ov W6) := by rw [hx.out]; exact hR6.out
                  have hnp8 : Hid (np ≤ 1000 * i + 2 * (q + 1)) := by have := hnp.out; show _ ≤ _; omega
                  go_wp2
                  go_roundw
                  case rel => exact ⟨q + 1, _, _, _, by go_num, by omega, hnp8, hR8, bJ6, bR6⟩
                  case measure => simp [intOf]; omega
              · have hqe : q = N := by omega
                subst hqe
                have hR9 : Hid (R0 w n i (settleN (bitP pp) s s.ws.length) Q pb bb np fp' fb' (.slice wA q wc) dv u10 ov wr) := by rw [hNH.out]; exact hR3.out
                clear hqN hq
                go_wp2
                go_meet
                exact CutP.ok (q := (0, none)) hR9.out.idle (by have := hnp.out; omega) bR3.out rfl e.out (by show _ = Value.bool (settleN (bitP pp) s s.ws.length).dead; rw [settle_dead, hdd'.out])
        · skip
          have ha3 : ¬ (a < 0 ∨ (n : Int) ≤ a) := fun h => n3H.out ⟨by decide, h⟩
          have ha0 : 0 ≤ a := by omega
          obtain ⟨at_, rfl⟩ := Int.eq_ofNat_of_zero_le ha0
          have hat : at_ < n := by omega
          clear ha3 ha0
          have e : Hid ((({ s with br := fun j => if j = at_ then true else s.br j } : DS), ((0 : Int), (none : Option (Nat → Nat)))) = (s', Q i)) := by
            show _ = _
            rw [← heH.out, step5 hf0.out]
            all_goals rfl
          obtain ⟨w5, hr5, hm5, hg5⟩ := hR2.out.hb.update Try.underlying98 (by unfold maxLen; omega) at_ (by omega) (.int .i64 1)
          have hm5H := Lib.hid hm5
          have hg5H := Lib.hid hg5
          clear hf0 hm5 hg5
          as_aux_lemma =>
            go_wp2_with (at_mapUpdate; refine wpList_mapUpdate_run rfl _ _ _ _ rfl _ _ _ rfl rfl rfl hr5 ?_)
            go_meet
            rw [hdd'.out]
            exact CutP.ok (q := (0, none)) (hR2.out.setB (b := true) hg5H.out hm5H.out) (by omega) (bR.out.grown hg5H.out fun e => map_ne_blk hR2.out.hb bR.out (Option.some.inj e).symm) rfl e.out rfl
        · skip
          have ha3 : ¬ (a < 0 ∨ (n : Int) ≤ a) := fun h => n3H.out ⟨by decide, h⟩
          have ha0 : 0 ≤ a := by omega
          obtain ⟨at_, rfl⟩ := Int.eq_ofNat_of_zero_le ha0
          have hat : at_ < n := by omega
          clear ha3 ha0
          have hl0 : l = 128 := hl128.out (by decide)
          subst hl0
          have e : Hid ((putP s (at_, dd), ((0 : Int), (none : Option (Nat → Nat)))) = (s', Q i)) := by
            show _ = _
            rw [← heH.out, step6 hf0.out]
            all_goals rfl
          obtain ⟨jb, jo, rfl, hjb, hjc⟩ := hrd.out.2 (by omega)
          obtain ⟨g5, c5, w5, hr5, hsd5, hn5⟩ := copy_run jb jc jo dd W2.drew 79 hjc
          have hN5 : New W2 w5 := (New.refl W2).drew.next hn5
          have hb5 := bJH.out.new hN5
          have t1 := hb5.cell 1
          simp at t1
          have hsd5H := Lib.hid hsd5
          have hR5 := Lib.hid (hR2.out.new hN5)
          have bR5 := Lib.hid (bR.out.new hN5)
          obtain ⟨w6, hr6, hm6, hg6⟩ := hR5.out.hp.update Try.underlying97 (by unfold maxLen; omega) at_ (by omega) (.slice (some ⟨g5, 0, none⟩) 128 c5)
          have hR6 := Lib.hid (hR5.out.setP hg6 hm6 hsd5)
          obtain ⟨w7, hr7, hm7, hg7⟩ := hR6.out.hb.update Try.underlying98 (by unfold maxLen; omega) at_ (by omega) (.int .i64 0)
          have hR7 := Lib.hid (hR6.out.setB (b := false) hg7 hm7)
          have hbJ6 := hb5.grown hg6 fun e => map_ne_blk hR5.out.hp hb5 (Option.some.inj e).symm
          have hbR6 := bR5.out.grown hg6 fun e => map_ne_blk hR5.out.hp bR5.out (Option.some.inj e).symm
          have hbR7 := Lib.hid (hbR6.grown hg7 fun e => map_ne_blk hR6.out.hb hbR6 (Option.some.inj e).symm)
          have t2 := hbJ6.cell 1
          simp at t2
          clear hsd5 hm6 hg6 hm7 hg7 hbJ6 hbR6 hb5 hf0 hn5
          as_aux_lemma =>
            go_upto_region 53 with fail
            go_region_law (first
              | (refine step_append_run (by rfl) _ _ _ (by rfl) _ _ (by rfl) (by rfl) hr5 ?_)
              | (refine step_mapUpdate_run (by rfl) _ _ _ _ (by rfl) _ _ _ (by rfl) (by rfl) (by rfl) hr6 ?_))
            all_goals go_wp2_with (at_mapUpdate; refine wpList_mapUpdate_run rfl _ _ _ _ rfl _ _ _ rfl rfl rfl hr7 ?_)
            all_goals go_meet
            all_goals rw [hdd'.out]
            all_goals exact CutP.ok (q := (0, none)) hR7.out (by omega) hbR7.out rfl e.out rfl
        · skip
          have e : Hid ((({ s with dead := true } : DS), ((0 : Int), (none : Option (Nat → Nat)))) = (s', Q i)) := by
            show _ = _
            rw [← heH.out, step7 hf0.out]
            all_goals rfl
          clear hf0
          as_aux_lemma =>
            go_wp2
            go_meet
            exact CutP.ok (q := (0, none)) hR2.out.dies (by omega) bR.out rfl e.out rfl
        · skip
          have e : Hid ((DS.fresh, ((0 : Int), (none : Option (Nat → Nat)))) = (s', Q i)) := by
            show _ = _
            rw [← heH.out, step8 hf0.out]
          as_aux_lemma =>
            go_wp2
            go_meet
            exact CutP.ok (q := (0, none)) hR2.out.fresh (by omega) ((bR.out.alloc _).alloc _) rfl e.out rfl
      case rest =>
        obtain ⟨pb, bb, fp, fb, dv, rv, rfl, rfl, rfl, hR3, bR3, hdt⟩ := hcut
        obtain ⟨W3, hW3⟩ : ∃ W3, W3 = wc := ⟨_, rfl⟩
        subst hW3
        obtain ⟨X, xl, xc, rfl⟩ : ∃ X l c, rv = .slice X l c := by
          have h5 := hdt
          cases hq : (Q i).2 with
          | none => rw [hq] at h5; exact ⟨_, _, _, h5⟩
          | some F => rw [hq] at h5; obtain ⟨b, c, e, _⟩ := h5; exact ⟨_, _, _, e⟩
        obtain ⟨qc, hqc⟩ : ∃ qc, Hid (qc = (Q i).1) := ⟨_, rfl⟩
        rw [← hqc.out] at bR3
        have x0 := bR3.cell 0
        have x1 := bR3.cell 1
        simp at x0 x1
        have hR3H := Lib.hid hR3
        have hdtH := Lib.hid hdt
        have oo3 := hR3.oo
        have hs3 := hR3.nn.size
        clear hR3 hdt bR3 bJ hR2 bR
        as_aux_lemma =>
          go_wp2_with (at_builtin; refine wpList_append_own _ rfl _ _ 39 rfl w.heap.size 95 i0 _ 2 32 Try.underlying39 hi0 hz0 hz1 hz2 rfl (by decide) u10 i (rpL Q ov i) rfl (oo3.alloc _) ⟨W3.heap.size, 0, none⟩ 1 1 [.int .i64 qc, .slice X xl xc] rfl rfl (World.news_of_block (cs := #[.int .i64 _, .slice _ _ _]) (t := 95) (fr := (0, 0)) (heap_alloc_new W3 _)) (by simp [Value.oneCell']) (by unfold maxLen; omega) (by omega) (by simp; omega) ?_; intro v4 w4 hown4 hgr4 hnil4)
          have hfin : Hid (R0 w n (i + 1) (S (i + 1)) Q pb bb (1000 * (i + 1)) fp fb u8 dv v4 (fun j => if j = i then .slice X xl xc else ov j) w4) := by
            have ha : New W3 (W3.alloc (.cells #[.int .i64 qc, .slice X xl xc] 95)) := (New.refl W3).alloc _
            rw [← hs'.out]
            exact R0.out (hR3H.out.new ha) hgr4 (by rw [← hqc.out]; exact hown4) (hdtH.out.new ha)
          have hdq : Hid (s'.dead = (S (i + 1)).dead) := by rw [hs'.out]; exact (rfl : _ = _)
          clear hown4 hgr4 hnil4 oo3
          go_wp2
          go_roundw
          case rel => exact ⟨i + 1, pb, bb, fp, fb, dv, _, by go_num, by omega, rfl, rfl, by rw [hdq.out], hfin⟩
          case measure => simp [intOf]; omega
    · have him : m = i := by omega
      subst him
      have hf := Lib.hid hR.out
      clear hR
      subst hdd
      as_aux_lemma =>
        go_wp2
        exact bodyPost_ret (v := .tuple #[u10, .int .i64 0]) (by simp [results, Try.results20, go_sem]) rfl ⟨⟨u10, ov, rfl, hf.out.oo, hf.out.od⟩, hf.out.nn⟩
end Go.Proofs.Ythjjchlibbheaaa.drive
