/-
  Contract of write.
-/
import Derived.Test.YtiffgeglbafenaaTreeKids
namespace Go.Proofs.Ytiffgeglbafenaa.tree
open Go.ChangeShapes Go.WideShapes Go.ChangeAt Go.RowKit Go.Proofs.Ytiffgeglbafenaa.kit Go.Deep
set_option linter.unusedVariables false
set_option maxRecDepth 100000
def WriteL (L : Nat) : Prop := ∀ (fb c vc base off l cap N B top : Nat) (vA A : Option Addr) (v : Value) (P : Nat → Prop) (f D : Nat → Nat) (w : World), Fb w fb (.slice vA c vc) → Wt w P c c B L top v f → (∀ g, P g → g < B) → fb < B → B ≤ top → top ≤ w.heap.size →
  RdU N w A l D → N ≤ fb → N ≤ B → l ≤ 4096 → off ≤ 4096 → base + roomN L ≤ 4096 →
    Calls Try.prog 24 #[ptr fb, v, .int .i64 (L : Nat), .int .i64 base, .int .i64 off, .slice A l cap] w (WriteP (QW P B top w) (KW fb B top) c fb (.slice vA c vc) L (putB base off l D f) w)
theorem write_zero : WriteL 0 := fun fb c vc base off l cap N B top vA A v P f D w hF hW hP hfB hB ht hD hN hNB hl hoff hbase =>
  write_leaf fb c vc base off l cap N B top vA A v P f D w hF hW hD hN hNB hl hoff (by omega)
theorem infoKids : (Try.prog.info? 91).map (·.size) = some 4 := by kernel_rfl
theorem infoPtr : (Try.prog.info? 76).map (·.size) = some 1 := by kernel_rfl
abbrev kidsA (F : Nat → Value) : List Value := [F 3, F 4, F 5, F 6]
theorem kidsA_at (F : Nat → Value) {j : Nat} (hj : j < 4) : (kidsA F).toArray[j]? = some (F (3 + j)) := by
  match j, hj with
  | 0, _ => rfl
  | 1, _ => rfl
  | 2, _ => rfl
  | 3, _ => rfl
theorem Nd.kids {w : World} {g : Nat} {F : Nat → Value} {b L : Nat} (h : Nd w g F b L) : w.rangeAt g 3 (kidsA F) := fun j v hv => by
  match j, hv with
  | 0, hv => cases hv; exact h.cell (by omega)
  | 1, hv => cases hv; exact h.cell (by omega)
  | 2, hv => cases hv; exact h.cell (by omega)
  | 3, hv => cases hv; exact h.cell (by omega)
set_option maxHeartbeats 1000000 in
theorem write_succ (L : Nat) (hL : L + 1 ≤ 3) (hrec : WriteL L) : WriteL (L + 1) := fun fb c vc base off l cap N B top vA A v P f D w hF hW hP hfB hB ht hD hN hNB hl hoff hbase => by
  obtain ⟨R, hR⟩ : ∃ R, Hid (R = roomN (L + 1)) := ⟨_, rfl⟩
  have hR1 : R ≤ 4096 := by rw [hR.out]; omega
  have hbR : base + R ≤ 4096 := by rw [hR.out]; exact hbase
  have hrm : Hid (∀ w', Calls Try.prog 33 #[.int .i64 ((L + 1 : Nat) : Int)] w' fun e w'' => e = .returned (.int .i64 (R : Nat)) ∧ w' = w'') := fun w' => by rw [hR.out]; exact room_any (L + 1) hL w'
  obtain ⟨L1, hL1⟩ : ∃ L1, Hid (L1 = L + 1) := ⟨_, rfl⟩
  by_cases hov : base + R ≤ off ∨ off + l ≤ base
  · have hfin : Hid (Tr w (QW P B top w) (c + 1) (L + 1) v (putB base off l D f) ∧ Fb w fb (.slice vA c vc) ∧ Alt (KW fb B top) w w) := by
      refine ⟨(hW.tr (Nat.le_succ c) (Nat.lt_succ_self c) (fun g hg => .inl hg) (fun g g1 g2 => .inr (.inl ⟨g1, g2⟩))).congr fun i hi => ?_, hF, Alt.refl w⟩
      rw [← hR.out] at hi
      unfold putB
      rw [if_neg (by omega)]
    clear hrec hF hW hD hbase
    rw [← hL1.out] at hrm ⊢
    rw [← hL1.out] at hfin
    go_enter Try.func24, Try.ntmps24
    go_wp2_with fail
    refine (hrm.out w).mono ?_
    rintro e w1 ⟨rfl, rfl⟩
    dsimp only
    by_cases h1 : base + R ≤ off
    · have h1' : (base : Int) + (R : Int) ≤ (off : Int) := by omega
      clear hov
      go_wp2
      go_ret
      exact ⟨_, rfl, hfin.out⟩
    · have h1' : ¬ (base : Int) + (R : Int) ≤ (off : Int) := by omega
      have h2' : (off : Int) + (l : Int) ≤ (base : Int) := by omega
      clear hov
      go_wp2
      go_ret
      exact ⟨_, rfl, hfin.out⟩
  · have h1' : ¬ (base : Int) + (R : Int) ≤ (off : Int) := by omega
    have h2' : ¬ (off : Int) + (l : Int) ≤ (base : Int) := by omega
    -- the node: is it to be copied?
    obtain ⟨fr, hv, hfr⟩ : ∃ fr : Bool, Hid ((v = .pointer none ∧ fr = true) ∨ ∃ g F b, v = ptr g ∧ Nd w g F b (L + 1) ∧ b ≤ c ∧ fr = decide (b < c)) ∧
        Hid ((fr = true ∧ ∃ G, (∀ j, j < 4 → Tr w P c L (G (3 + j)) (fun i => f (j * roomN L + i))) ∧ ∀ w', New w w' → Calls Try.prog 34 #[ptr fb, v, .int .i64 ((L + 1 : Nat) : Int)] w' (FreshP fb c (.slice vA c vc) (L + 1) G w')) ∨
          (fr = false ∧ ∃ g, v = ptr g ∧ ∀ wx, New w wx → ∃ F, Rdy w wx P c fb B top L g g (.slice vA c vc) F f)) := by
      rcases hW with hT | ⟨g, F, rfl, h2, h3, h4, h5, h6, h7⟩
      · rcases hT with ⟨rfl, hz⟩ | ⟨g, F, b, rfl, h1, h2, h3, h4⟩
        · refine ⟨true, .inl ⟨rfl, rfl⟩, .inl ⟨rfl, bareF ((L + 1 : Nat) : Int), fun j hj => ?_, fun w' hn => Fresh_nil fb (L + 1) c vc vA w' (hF.new hn)⟩⟩
          have e : bareF ((L + 1 : Nat) : Int) (3 + j) = .pointer none := by
            unfold bareF
            rw [if_neg (by omega), if_neg (by omega), if_pos (by omega)]
          rw [e]
          refine Tr.nil _ _ _ fun i hi => hz _ ?_
          rw [roomN_succ]
          have : j * roomN L ≤ 3 * roomN L := Nat.mul_le_mul_right _ (by omega)
          omega
        · exact ⟨true, .inr ⟨g, F, b, rfl, h2, by omega, by simp [h3]⟩, .inl ⟨rfl, F, h4, fun w' hn => Fresh_like fb (L + 1) b c vc g vA F _ w' (hF.new hn) (h2.new hn)⟩⟩
      · exact ⟨false, .inr ⟨g, F, c, rfl, h4, Nat.le_refl _, by simp⟩, .inr ⟨rfl, g, rfl, fun wx hn => ⟨F, Rdy.of_chain hn h2 h3 h4 h5 h6 h7 ht hF⟩⟩⟩
    rw [← hL1.out] at hrm hfr ⊢
    have hFH := Lib.hid hF
    have hDH := Lib.hid hD
    have hPH := Lib.hid hP
    have hrecH := Lib.hid hrec
    clear hF hW hD hP hbase hov hrec
    go_enter Try.func24, Try.ntmps24
    go_wp2_with fail
    refine (hrm.out w).mono ?_
    rintro e w1 ⟨rfl, rfl⟩
    dsimp only
    go_upto_region 3 with fail
    go_cut [45] (fun t wx => t = .bool fr ∧ New w wx)
    case first =>
      rcases hv.out with ⟨rfl, e⟩ | ⟨g, F, b, rfl, hN', hb, e⟩
      · subst e
        go_quiet (fail)
        go_wp2
        go_meet
        exact ⟨rfl, New.of_drewN _ _⟩
      · have n1 := hN'.cell (i := 1) (by omega)
        rw [hN'.bir] at n1
        obtain ⟨m, hm⟩ := hFH.out
        have b0 := hm.cell 0
        simp at b0
        have e' : Hid (decide ((b : Int) < (c : Int)) = fr) := by
          show _ = _
          rw [e, decide_eq_decide]
          omega
        clear hN' hm e
        go_quiet (fail)
        go_wp2
        go_meet
        exact ⟨by rw [← e'.out]; simp, New.of_drewN _ _⟩
    obtain ⟨htt, hn⟩ := hcut
    rw [htt]
    clear htt
    have hn1 := Lib.hid hn
    clear hn
    go_upto_if 45 with fail
    go_cut [1] (fun n wx => ∃ a F top', n = ptr a ∧ Hid (Rdy w wx P c fb B top L a top' (.slice vA c vc) F f))
    case first =>
      rcases hfr.out with ⟨rfl, G, hG1, hG2⟩ | ⟨rfl, g, rfl, hR⟩
      · go_wp2_with fail
        refine (hG2 _ hn1.out).mono ?_
        rintro e w2 ⟨rfl, ⟨F, hN2, hF2⟩, hFb2, hA2⟩
        dsimp only
        have hrdy := Lib.hid (Rdy.of_tr hn1.out hB hG1 (hL1.out ▸ hN2) hF2 hFH.out hFb2 hA2)
        clear hG1 hG2 hN2 hF2 hFb2 hA2
        go_wp2
        go_meet
        exact ⟨_, _, _, rfl, hrdy⟩
      · obtain ⟨F, hr⟩ := hR _ hn1.out
        have hrdy := Lib.hid hr
        clear hR hr
        go_wp2
        go_meet
        exact ⟨_, _, _, rfl, hrdy⟩
    obtain ⟨a, F, top', ha, hrdy⟩ := hcut
    rw [ha]
    clear ha hn1 hfr hv
    have hL0 : ((L1 : Int) == 0) = false := by
      have := hL1.out
      simp
      omega
    obtain ⟨KA, hlen, hkids, hkat⟩ : ∃ KA : List Value, KA.length = 4 ∧ Hid (wc.rangeAt a 3 KA) ∧ Hid (∀ j, j < 4 → ∀ w', (Instr.index 91 (.agg KA.toArray) (.int .i64 (j : Nat))).run Try.prog w' = .ok (F (3 + j)) w') :=
      ⟨kidsA F, rfl, hrdy.out.nd.kids, fun j hj w' => run_index_arr (P := Try.prog) 91 76 4 _ Try.underlying91 Try.underlying76 rfl infoPtr (kidsA F).toArray .i64 j (F (3 + j)) hj (kidsA_at F hj) w'⟩
    go_wp2_with (refine wpList_load_mid rfl 91 _ rfl a 3 rfl KA _ hkids.out Try.underlying91 rfl (by rw [hlen]; exact infoKids) ?_)
    go_loopw [83] (fun x wr => ∃ (j : Nat) (kv : Nat → Value), x = .int .i64 j ∧ j ≤ 4 ∧ Hid (Lp w P c fb B top L a top' (fun i => putB (base + i * roomN L) off l D (fun x => f (i * roomN L + x))) (.slice vA c vc) F f j kv wr)) (fun x _ => 4 - (intOf x).toNat)
    case atStart => exact ⟨0, fun _ => .pointer none, rfl, by omega, hrdy.out.lp _⟩
    case round =>
      obtain ⟨j, kv, rfl, hj, hLp⟩ := hrel
      by_cases hlt : j < 4
      · obtain ⟨tj, p1, p2, p3, p4⟩ := hLp.out.pend j (Nat.le_refl _) hlt
        obtain ⟨r, hr⟩ : ∃ r, Hid (r = roomN L) := ⟨_, rfl⟩
        obtain ⟨m, hm⟩ : ∃ m, Hid (m = j * r) := ⟨_, rfl⟩
        have hmr : m + r ≤ R := by
          rw [hm.out, hr.out, hR.out, roomN_succ]
          have : j * roomN L ≤ 3 * roomN L := Nat.mul_le_mul_right _ (by omega)
          omega
        have hji : (j : Int) < 4 := by omega
        have hj0 : (0 : Int) ≤ (j : Int) := by omega
        have hjm : (j : Int) * (r : Int) = (m : Int) := by rw [hm.out]; push_cast; rfl
        have hL1' := hL1.out
        have hw1 : IntKind.i64.wrap ((L1 : Int) - 1) = (L : Int) := by rw [IntWalk.i64_in _ (by omega)]; omega
        have hw2 : IntKind.i64.wrap ((j : Int) * (r : Int)) = (m : Int) := by rw [hjm]; exact IntWalk.i64_in _ (by omega)
        have hw3 : IntKind.i64.wrap ((base : Int) + (m : Int)) = ((base + m : Nat) : Int) := by rw [IntWalk.i64_in _ (by omega)]; omega
        have hroom : Hid (∀ w', Calls Try.prog 33 #[.int .i64 (L : Int)] w' fun e w'' => e = .returned (.int .i64 (r : Nat)) ∧ w' = w'') := fun w' => by rw [hr.out]; exact room_any L (by omega) w'
        have hsz := hLp.out.alt.size
        have htj : tj ≤ wr.heap.size := by have := hLp.out.t2; omega
        obtain ⟨kj, hkj⟩ : ∃ kj, Hid (kj = F (3 + j)) := ⟨_, rfl⟩
        have hix := hkat.out j hlt
        rw [← hkj.out] at p4 hix
        have hwrite : Hid (∀ w', New wr w' → Calls Try.prog 24 #[ptr fb, kj, .int .i64 (L : Int), .int .i64 ((base + m : Nat) : Int), .int .i64 (off : Int), .slice A l cap] w' (WriteP (QW P B tj w') (KW fb B tj) c fb (.slice vA c vc) L (putB (base + j * roomN L) off l D (fun x => f (j * roomN L + x))) w')) := fun w' hn => by
          rw [← hr.out, ← hm.out]
          rw [← hr.out, ← hm.out] at p4
          exact hrecH.out fb c vc (base + m) off l cap N B tj vA A kj P _ D w' (hLp.out.fbk.new hn) (p4.keep (fun g cs _ hb => hn.block g hb.lt) (Nat.le_refl _) (fun g _ hg => hn.block g (by omega))) hPH.out hfB p1 (Nat.le_trans htj hn.size)
            ((hDH.out.alt hLp.out.alt fun x hx => by rcases hx with rfl | hx; exact hN; omega).alt (Alt.of_new (K := fun _ => False) hn) fun x hx => hx.elim) hN hNB hl hoff (by rw [← hr.out]; omega)
        clear hL1' p4 hjm hmr
        go_wp2_with fail
        go_region_law (first
          | (go_simp; go_at_call 33; refine (hroom.out _).mono ?_; rintro e w2 ⟨rfl, rfl⟩)
          | (go_simp; go_at_call 24; refine (hwrite.out _ (New.refl _).drew).mono ?_; rintro e w3 ⟨v', rfl, hT3, hF3, hA3⟩
             obtain ⟨pp, rfl⟩ : ∃ pp, v' = .pointer pp := by rcases hT3.form with ⟨rfl, _⟩ | ⟨_, _, _, rfl, _⟩ <;> exact ⟨_, rfl⟩
             obtain ⟨⟨u, hu⟩, hfz, hLp'⟩ := hLp.out.step hlt hPH.out hB ht (New.refl wr).drew p1 p2 p3 hT3 hF3 hA3))
        have hnext := Lib.hid hLp'
        clear hT3 hF3 hA3 hu hfz hix hw1 hw2 hw3 hwrite hroom
        go_wp2
        go_roundw
        case rel => exact ⟨j + 1, _, by go_num, by omega, hnext⟩
        case measure => simp [intOf]; omega
      · have hj4 : j = 4 := by omega
        subst hj4
        have hfin := Lib.hid (hLp.out.end (f' := putB base off l D f) fun j x _ _ => by unfold putB; dsimp only; rw [Nat.add_assoc])
        rw [← hL1.out] at hfin
        clear hLp
        go_wp2
        go_ret
        exact ⟨_, rfl, hfin.out⟩
theorem write_any : ∀ L, L ≤ 3 → WriteL L
  | 0, _ => write_zero
  | L + 1, h => write_succ L h (write_any L (by omega))
end Go.Proofs.Ytiffgeglbafenaa.tree
