/-
  Contract of cut.
-/
import Derived.Test.YtiffgeglbafenaaTreeWrite
namespace Go.Proofs.Ytiffgeglbafenaa.tree
open Go.ChangeShapes Go.WideShapes Go.ChangeAt Go.RowKit Go.Proofs.Ytiffgeglbafenaa.kit Go.Deep
set_option linter.unusedVariables false
set_option maxRecDepth 100000
section
variable {P : Program}
theorem setCells_rowIs (z : Value) (b : Nat) (t : TypeId) (N : Nat) : ∀ (n o : Nat) (w : World) (f : Nat → Value), w.rowIs b t N f → (w.setCells b o (List.replicate n z)).rowIs b t N (fun i => if o ≤ i ∧ i < o + n then z else f i)
  | 0, o, w, f, h => h.congr fun i hi => by rw [if_neg (by omega)]
  | n + 1, o, w, f, h => by
    rw [List.replicate_succ]
    show ((w.setCell ⟨b, o, none⟩ z).setCells b (o + 1) (List.replicate n z)).rowIs b t N _
    refine (setCells_rowIs z b t N n (o + 1) _ _ (h.set o z)).congr fun i hi => ?_
    by_cases h1 : o + 1 ≤ i ∧ i < o + 1 + n
    · rw [if_pos h1, if_pos (by omega)]
    · rw [if_neg h1]
      by_cases h2 : i = o
      · rw [if_pos h2, if_pos (by omega)]
      · rw [if_neg h2, if_neg (by omega)]
theorem setCells_grown (b : Nat) : ∀ (vs : List Value) (o : Nat) (w : World), w.grownBy (w.setCells b o vs) (some b)
  | [], o, w => grown_refl w _
  | v :: vs, o, w => by
    have h1 := grown_set w b o v
    have h2 := setCells_grown b vs (o + 1) (w.setCell ⟨b, o, none⟩ v)
    exact ⟨h2.os.trans h1.os, h2.tape.trans h1.tape, h2.output.trans h1.output, Nat.le_trans h1.size h2.size, fun k hk hr => (h2.block k (Nat.lt_of_lt_of_le hk h1.size) hr).trans (h1.block k hk hr)⟩
theorem wpList_clear_row {ops : Array Oper} {rest : List Oper} {o : Oper} {a : Act} {w : World} {Q : Exit → Act → World → Prop} (hgd : o.guard = none) (s : Operand) (t : TypeId)
    (ho : o.op = .call { callee := .builtin .clear, args := #[s], argTypes := #[t] }) (e : TypeId) (i : TypeInfo) (z : Value) (ht : P.underlying t = some (.slice e)) (hi : P.info? e = some i) (hz : i.zero = some z) (hzc : z.cells = #[z]) (h1 : z.oneCell' = true)
    (b off n c : Nat) (hs : a.eval s = .slice (some ⟨b, off, none⟩) n c) (hn : 0 < n) (te : TypeId) (N : Nat) (f : Nat → Value) (hrow : w.rowIs b te N f) (hfit : off + n ≤ N)
    (h : wpList P ops Q rest (a.put o.dst (.tuple #[])) (w.setCells b off (List.replicate n z))) : wpList P ops Q (o :: rest) a w := by
  refine wpList_plain hgd fun _ hK => ?_
  have hv : ∀ w, (zeroValue e).run P w = .ok z w := fun w => by simp [zeroValue, typeInfo, hi, hz]
  have hr := Lib.run_clear_slice (P := P) w t e o.type z ht hv hzc h1 b off n c hn (fun j hj => by rw [hrow.cell (by omega)]; rfl) (fun j hj => hrow.frozen _)
  unfold Oper.wp execOp
  simp only [ho, resolve, invoke, builtin, Sem.run_bind, Sem.run_pure, Result.andThen_ok, List.map_toArray, List.map_cons, List.map_nil, hs, hr]
  exact hK _ _ h
end
theorem infoU8 : (Try.prog.info? 5).map (fun i => (i.zero, i.size, i.bytes)) = some (some (.int .u8 0), 1, 1) := by kernel_rfl
def cutB (base e : Nat) (f : Nat → Nat) (i : Nat) : Nat := if base + i < e then f i else 0
abbrev QC (P : Nat → Prop) (w : World) : Nat → Prop := fun g => P g ∨ w.heap.size ≤ g
def CutL (L : Nat) : Prop := ∀ (fb c vc base e : Nat) (vA : Option Addr) (v : Value) (P : Nat → Prop) (f : Nat → Nat) (w : World), Fb w fb (.slice vA c vc) → Tr w P c L v f → base + roomN L ≤ 4096 → e ≤ 4096 →
    Calls Try.prog 35 #[ptr fb, v, .int .i64 base, .int .i64 e] w (WriteP (QC P w) (fun k => k = fb) c fb (.slice vA c vc) L (cutB base e f) w)
theorem cut_nil (L fb c vc base e : Nat) (vA : Option Addr) (P : Nat → Prop) (f : Nat → Nat) (w : World) (hF : Fb w fb (.slice vA c vc)) (hz : ∀ i, i < roomN L → cutB base e f i = 0) :
    Calls Try.prog 35 #[ptr fb, .pointer none, .int .i64 base, .int .i64 e] w (WriteP (QC P w) (fun k => k = fb) c fb (.slice vA c vc) L (cutB base e f) w) := by
  have hfin : Hid (Tr w (QC P w) (c + 1) L (.pointer none) (cutB base e f) ∧ Fb w fb (.slice vA c vc) ∧ Alt (fun k => k = fb) w w) := ⟨Tr.nil _ _ _ hz, hF, Alt.refl w⟩
  clear hF hz
  go_enter Try.func35, Try.ntmps35
  go_wp2
  go_ret
  exact ⟨_, rfl, hfin.out⟩
theorem cut_off (L fb c vc base e g : Nat) (vA : Option Addr) (P : Nat → Prop) (f : Nat → Nat) (w : World) (hF : Fb w fb (.slice vA c vc)) (he : e ≤ base) :
    Calls Try.prog 35 #[ptr fb, ptr g, .int .i64 base, .int .i64 e] w (WriteP (QC P w) (fun k => k = fb) c fb (.slice vA c vc) L (cutB base e f) w) := by
  have hfin : Hid (Tr w (QC P w) (c + 1) L (.pointer none) (cutB base e f) ∧ Fb w fb (.slice vA c vc) ∧ Alt (fun k => k = fb) w w) := ⟨Tr.nil _ _ _ fun i _ => by unfold cutB; rw [if_neg (by omega)], hF, Alt.refl w⟩
  have he' : (e : Int) ≤ (base : Int) := by omega
  clear hF
  go_enter Try.func35, Try.ntmps35
  go_wp2
  go_ret
  exact ⟨_, rfl, hfin.out⟩
theorem cut_whole (L fb c vc base e g b : Nat) (vA : Option Addr) (P : Nat → Prop) (f : Nat → Nat) (F : Nat → Value) (w : World) (hF : Fb w fb (.slice vA c vc)) (hN : Nd w g F b L) (hT : Tr w P c L (ptr g) f) (hL : L ≤ 3) (he : base < e) (he2 : base + roomN L ≤ e) (hb : base + roomN L ≤ 4096) :
    Calls Try.prog 35 #[ptr fb, ptr g, .int .i64 base, .int .i64 e] w (WriteP (QC P w) (fun k => k = fb) c fb (.slice vA c vc) L (cutB base e f) w) := by
  obtain ⟨R, hR⟩ : ∃ R, Hid (R = roomN L) := ⟨_, rfl⟩
  have hrm : Hid (∀ w', Calls Try.prog 33 #[.int .i64 (L : Int)] w' fun e w'' => e = .returned (.int .i64 (R : Nat)) ∧ w' = w'') := fun w' => by rw [hR.out]; exact room_any L hL w'
  have hfin : Hid (Tr w (QC P w) (c + 1) L (ptr g) (cutB base e f) ∧ Fb w fb (.slice vA c vc) ∧ Alt (fun k => k = fb) w w) := ⟨(hT.mono (Nat.le_succ c) fun g hg => .inl hg).congr fun i hi => by unfold cutB; rw [if_pos (by omega)], hF, Alt.refl w⟩
  have n2 := hN.cell (i := 2) (by omega)
  rw [hN.lev] at n2
  rw [← hR.out] at he2 hb
  have he' : ¬ (e : Int) ≤ (base : Int) := by omega
  have he3 : (base : Int) + (R : Int) ≤ (e : Int) := by omega
  clear hF hN hT
  go_enter Try.func35, Try.ntmps35
  go_wp2_with fail
  refine (hrm.out w).mono ?_
  rintro e w1 ⟨rfl, rfl⟩
  dsimp only
  go_wp2
  go_ret
  exact ⟨_, rfl, hfin.out⟩
set_option maxHeartbeats 1000000 in
theorem cut_leaf (fb c vc base e g b : Nat) (vA : Option Addr) (P : Nat → Prop) (f : Nat → Nat) (F : Nat → Value) (w : World) (hF : Fb w fb (.slice vA c vc)) (hN : Nd w g F b 0) (hFv : ∀ i, i < 64 → F (7 + i) = .int .u8 (f i : Nat)) (he : base < e) (he2 : e < base + 64) (hb : base + 64 ≤ 4096) :
    Calls Try.prog 35 #[ptr fb, ptr g, .int .i64 base, .int .i64 e] w (WriteP (QC P w) (fun k => k = fb) c fb (.slice vA c vc) 0 (cutB base e f) w) := by
  obtain ⟨i0, hi0, hz0, hz1, hz2⟩ := info_parts infoU8
  have hrm : Hid (∀ w', Calls Try.prog 33 #[.int .i64 ((0 : Nat) : Int)] w' fun e w'' => e = .returned (.int .i64 64) ∧ w' = w'') := fun w' => room_any 0 (by omega) w'
  have hfr := Lib.hid (Fresh_like fb 0 b c vc g vA F ((0 : Nat) : Int) w hF hN)
  have n2 := hN.cell (i := 2) (by omega)
  rw [hN.lev] at n2
  have hFvH := Lib.hid hFv
  obtain ⟨q, hq⟩ : ∃ q, Hid (e = base + q) := ⟨e - base, by show _ = _; omega⟩
  have hq0 : 0 < q := by have := hq.out; omega
  have hq1 : q < 64 := by have := hq.out; omega
  have he' : ¬ (e : Int) ≤ (base : Int) := by omega
  have he3 : ¬ (base : Int) + 64 ≤ (e : Int) := by omega
  have e1 : (e : Int) - (base : Int) = (q : Int) := by have := hq.out; omega
  have hq2 : (q : Int) ≤ 64 := by omega
  clear hF hN hFv
  go_enter Try.func35, Try.ntmps35
  go_wp2_with fail
  refine (hrm.out w).mono ?_
  rintro x w1 ⟨rfl, rfl⟩
  dsimp only
  go_wp2_with fail
  refine hfr.out.mono ?_
  rintro x w2 ⟨rfl, ⟨F2, hN2, hF2⟩, hFb2, hA2⟩
  dsimp only
  obtain ⟨a, ha⟩ : ∃ a, Hid (a = w.heap.size) := ⟨_, rfl⟩
  rw [← ha.out] at hN2 ⊢
  have m2 := hN2.cell (i := 2) (by omega)
  rw [hN2.lev] at m2
  have hrow := Lib.hid hN2.row
  have hN2H := Lib.hid hN2
  clear hN2 n2 hfr hrm he' he3
  go_wp2_with (refine wpList_clear_row rfl _ 42 rfl 5 i0 (.int .u8 0) Try.underlying42 hi0 hz0 rfl rfl a (7 + q) (64 - q) (64 - q) rfl (by omega) 94 71 F2 hrow.out (by omega) ?_)
  go_ret
  refine ⟨_, rfl, .inr ⟨a, _, c, rfl, (.inr (by rw [ha.out]; exact Nat.le_refl _)), ⟨setCells_rowIs (.int .u8 0) a _ 71 (64 - q) (7 + q) w2 F2 hrow.out, fun i hi => ?_, ?_, ?_⟩, Nat.lt_succ_self c, fun i hi => ?_⟩, ?_, ?_⟩
  · show (if _ then _ else _ : Value).oneCell' = true
    split
    · rfl
    · exact hN2H.out.one i hi
  · show (if _ then _ else _ : Value) = _
    rw [if_neg (by omega)]
    exact hN2H.out.bir
  · show (if _ then _ else _ : Value) = _
    rw [if_neg (by omega)]
    exact hN2H.out.lev
  · show (if _ then _ else _ : Value) = _
    unfold cutB
    have := hq.out
    by_cases h1 : base + i < e
    · rw [if_neg (by omega), if_pos h1, hF2 _ (by omega) (by omega)]
      exact hFvH.out i hi
    · rw [if_pos (by omega), if_neg h1]
      rfl
  · obtain ⟨cs, hcs⟩ := hN2H.out.blk
    obtain ⟨m, hm⟩ := hFb2
    exact ⟨m, hm.grown (setCells_grown a _ _ _) fun e => blk_ne' hcs hm (by decide) (Option.some.inj e)⟩
  · exact hA2.grown (setCells_grown a _ _ _) fun r e => .inr (by cases e; rw [ha.out]; exact Nat.le_refl _)
theorem cut_zero : CutL 0 := fun fb c vc base e vA v P f w hF hT hb he => by
  rcases hT with ⟨rfl, hz⟩ | ⟨g, F, b, rfl, h1, h2, h3, h4⟩
  · exact cut_nil 0 fb c vc base e vA P f w hF fun i hi => by
      unfold cutB
      rw [hz i hi]
      split <;> rfl
  · by_cases k1 : e ≤ base
    · exact cut_off 0 fb c vc base e g vA P f w hF k1
    · by_cases k2 : base + roomN 0 ≤ e
      · exact cut_whole 0 fb c vc base e g b vA P f F w hF h2 (.inr ⟨g, F, b, rfl, h1, h2, h3, h4⟩) (by omega) (by omega) k2 hb
      · exact cut_leaf fb c vc base e g b vA P f F w hF h2 h4 (by omega) (by rw [roomN_zero] at k2; omega) (by rw [roomN_zero] at hb; omega)
theorem Wt.low {w : World} {P : Nat → Prop} {c' c B L : Nat} {v : Value} {f : Nat → Nat} (h : Wt w P c' c B L B v f) : Tr w P c' L v f := by
  cases L with
  | zero => exact h
  | succ L =>
    rcases h with h | ⟨g, F, h1, h2, h3, _⟩
    · exact h
    · omega
set_option maxHeartbeats 1000000 in
theorem cut_node (L fb c vc base e g b : Nat) (vA : Option Addr) (P : Nat → Prop) (f : Nat → Nat) (F : Nat → Value) (w : World) (hL : L + 1 ≤ 3) (hrec : CutL L) (hF : Fb w fb (.slice vA c vc)) (hN : Nd w g F b (L + 1)) (hk : ∀ j, j < 4 → Tr w P c L (F (3 + j)) (fun i => f (j * roomN L + i))) (hP : ∀ g, P g → g < w.heap.size) (he : base < e) (he2 : e < base + roomN (L + 1)) (hb : base + roomN (L + 1) ≤ 4096) :
    Calls Try.prog 35 #[ptr fb, ptr g, .int .i64 base, .int .i64 e] w (WriteP (QC P w) (fun k => k = fb) c fb (.slice vA c vc) (L + 1) (cutB base e f) w) := by
  obtain ⟨R, hR⟩ : ∃ R, Hid (R = roomN (L + 1)) := ⟨_, rfl⟩
  obtain ⟨L1, hL1⟩ : ∃ L1, Hid (L1 = L + 1) := ⟨_, rfl⟩
  have hrm : Hid (∀ w', Calls Try.prog 33 #[.int .i64 (L1 : Int)] w' fun e w'' => e = .returned (.int .i64 (R : Nat)) ∧ w' = w'') := fun w' => by rw [hR.out, hL1.out]; exact room_any (L + 1) hL w'
  have hfr := Lib.hid (Fresh_like fb (L + 1) b c vc g vA F (L1 : Int) w hF hN)
  have n2 := hN.cell (i := 2) (by omega)
  rw [hN.lev, ← hL1.out] at n2
  rw [← hR.out] at he2 hb
  have hFH := Lib.hid hF
  have hkH := Lib.hid hk
  have hPH := Lib.hid hP
  have hrecH := Lib.hid hrec
  have he' : ¬ (e : Int) ≤ (base : Int) := by omega
  have he3 : ¬ (base : Int) + (R : Int) ≤ (e : Int) := by omega
  have hbR : base + R ≤ 4096 := hb
  have hltH := hN.lt
  rw [← hL1.out]
  clear hF hN hk hP hrec
  go_enter Try.func35, Try.ntmps35
  go_wp2_with fail
  refine (hrm.out w).mono ?_
  rintro x w1 ⟨rfl, rfl⟩
  dsimp only
  go_wp2_with fail
  refine hfr.out.mono ?_
  rintro x w2 ⟨rfl, ⟨F2, hN2, hF2⟩, hFb2, hA2⟩
  dsimp only
  have hrdy := Lib.hid (Rdy.of_tr (B := w.heap.size) (top := w.heap.size) (New.refl w) (Nat.le_refl _) hkH.out hN2 hF2 hFH.out hFb2 hA2)
  have m2 := hN2.cell (i := 2) (by omega)
  rw [hN2.lev, ← hL1.out] at m2
  obtain ⟨a, ha⟩ : ∃ a, Hid (a = w.heap.size) := ⟨_, rfl⟩
  rw [← ha.out] at m2
  have hL0 : ((L1 : Int) == 0) = false := by
    have := hL1.out
    simp
    omega
  obtain ⟨KA, hlen, hkids, hkat⟩ : ∃ KA : List Value, KA.length = 4 ∧ Hid (w2.rangeAt a 3 KA) ∧ Hid (∀ j, j < 4 → ∀ w', (Instr.index 91 (.agg KA.toArray) (.int .i64 (j : Nat))).run Try.prog w' = .ok (F2 (3 + j)) w') :=
    ⟨kidsA F2, rfl, by rw [ha.out]; exact hN2.kids, fun j hj w' => run_index_arr (P := Try.prog) 91 76 4 _ Try.underlying91 Try.underlying76 rfl infoPtr (kidsA F2).toArray .i64 j (F2 (3 + j)) hj (kidsA_at F2 hj) w'⟩
  rw [← ha.out] at hrdy ⊢
  clear hN2 hF2 hFb2 hA2 hfr hrm he' he3 n2
  go_wp2_with (refine wpList_load_mid rfl 91 _ rfl a 3 rfl KA _ hkids.out Try.underlying91 rfl (by rw [hlen]; exact infoKids) ?_)
  go_loopw [54] (fun x wr => ∃ (j : Nat) (kv : Nat → Value), x = .int .i64 j ∧ j ≤ 4 ∧ Hid (Lp w P c fb a a L a a (fun i => cutB (base + i * roomN L) e (fun x => f (i * roomN L + x))) (.slice vA c vc) F2 f j kv wr)) (fun x _ => 4 - (intOf x).toNat)
  case atStart => exact ⟨0, fun _ => .pointer none, rfl, by omega, hrdy.out.lp _⟩
  case round =>
    obtain ⟨j, kv, rfl, hj, hLp⟩ := hrel
    by_cases hlt : j < 4
    · obtain ⟨tj, p1, p2, p3, p4⟩ := hLp.out.pend j (Nat.le_refl _) hlt
      have p5 : a = tj := by omega
      subst p5
      have p6 : Tr wr P c L (F2 (3 + j)) (fun x => f (j * roomN L + x)) := p4.low
      obtain ⟨r, hr⟩ : ∃ r, Hid (r = roomN L) := ⟨_, rfl⟩
      obtain ⟨m, hm⟩ : ∃ m, Hid (m = j * r) := ⟨_, rfl⟩
      have hmr : m + r ≤ R := by
        rw [hm.out, hr.out, hR.out, roomN_succ]
        have : j * roomN L ≤ 3 * roomN L := Nat.mul_le_mul_right _ (by omega)
        omega
      have hji : (j : Int) < 4 := by omega
      have hj0 : (0 : Int) ≤ (j : Int) := by omega
      have hjm : (j : Int) * (r : Int) = (m : Int) := by rw [hm.out]; push_cast; rfl
      have hL1' := hL1.out
      have hw1 : IntKind.i64.wrap ((L1 : Int) - 1) = (L : Int) := by rw [IntWalk.i64_in _ (by omega)]; omega
      have hw2 : IntKind.i64.wrap ((j : Int) * (r : Int)) = (m : Int) := by rw [hjm]; exact IntWalk.i64_in _ (by omega)
      have hw3 : IntKind.i64.wrap ((base : Int) + (m : Int)) = ((base + m : Nat) : Int) := by rw [IntWalk.i64_in _ (by omega)]; omega
      have hroom : Hid (∀ w', Calls Try.prog 33 #[.int .i64 (L : Int)] w' fun e w'' => e = .returned (.int .i64 (r : Nat)) ∧ w' = w'') := fun w' => by rw [hr.out]; exact room_any L (by omega) w'
      have hsz := hLp.out.alt.size
      obtain ⟨kj, hkj⟩ : ∃ kj, Hid (kj = F2 (3 + j)) := ⟨_, rfl⟩
      have hix := hkat.out j hlt
      rw [← hkj.out] at p6 hix
      have hcut : Hid (∀ w', New wr w' → Calls Try.prog 35 #[ptr fb, kj, .int .i64 ((base + m : Nat) : Int), .int .i64 (e : Int)] w' (WriteP (QC P w') (fun k => k = fb) c fb (.slice vA c vc) L (cutB (base + j * roomN L) e (fun x => f (j * roomN L + x))) w')) := fun w' hn => by
        rw [← hr.out, ← hm.out]
        rw [← hr.out, ← hm.out] at p6
        exact hrecH.out fb c vc (base + m) e vA kj P _ w' (hLp.out.fbk.new hn) (p6.new hn) (by rw [← hr.out]; omega) (by omega)
      have b2 := hLp.out.nd.cell (i := 2) (by omega)
      rw [hLp.out.nd.lev, ← hL1.out] at b2
      have b2' : ∀ n, (wr.drewN n).cell? ⟨a, 2, none⟩ = some (.int .i64 (L1 : Int)) := fun n => b2
      have b3' : wr.drew.cell? ⟨a, 2, none⟩ = some (.int .i64 (L1 : Int)) := b2
      clear hL1' p4 p6 hjm hmr
      go_wp2_with fail
      go_region_law (first
        | (go_simp; go_at_call 33; refine (hroom.out _).mono ?_; rintro x w2 ⟨rfl, rfl⟩)
        | (go_simp; go_at_call 35; refine (hcut.out _ (New.refl _).drew).mono ?_; rintro x w3 ⟨v', rfl, hT3, hF3, hA3⟩
           obtain ⟨pp, rfl⟩ : ∃ pp, v' = .pointer pp := by rcases hT3.form with ⟨rfl, _⟩ | ⟨_, _, _, rfl, _⟩ <;> exact ⟨_, rfl⟩
           obtain ⟨⟨u, hu⟩, hfz, hLp'⟩ := hLp.out.step hlt (fun g hg => by rw [ha.out]; exact hPH.out g hg) (Nat.le_refl _) (by rw [ha.out]; exact Nat.le_refl _) (New.refl wr).drew (Nat.le_refl _) (Nat.le_refl _) (.inl rfl) (hT3.mono (Nat.le_refl _) fun g hg => by rcases hg with h1 | h1; exact .inl h1; exact .inr (.inr h1)) hF3 (hA3.weak fun k hk => .inl hk)
           skip))
      have hnext := Lib.hid hLp'
      clear hT3 hF3 hA3 hu hfz hix hw1 hw2 hw3 hcut hroom hLp' b2 b2' b3'
      go_wp2
      go_roundw
      case rel => exact ⟨j + 1, _, by go_num, by omega, hnext⟩
      case measure => simp [intOf]; omega
    · have hj4 : j = 4 := by omega
      subst hj4
      have hfin := Lib.hid (hLp.out.end (f' := cutB base e f) fun j x _ _ => by unfold cutB; dsimp only; rw [Nat.add_assoc])
      rw [← hL1.out] at hfin
      have hfin2 : Hid (Tr wr (QC P w) (c + 1) L1 (ptr a) (cutB base e f) ∧ Fb wr fb (.slice vA c vc) ∧ Alt (fun k => k = fb) w wr) := by
        obtain ⟨h1, h2, h3⟩ := hfin.out
        refine ⟨h1.mono (Nat.le_refl _) fun g hg => ?_, h2, h3.weak fun k hk => ?_⟩
        · rcases hg with h4 | h4 | h4
          · exact .inl h4
          · omega
          · exact .inr h4
        · rcases hk with h4 | h4
          · exact h4
          · omega
      clear hLp hfin
      go_wp2
      go_ret
      exact ⟨_, rfl, hfin2.out⟩
theorem WriteP.weak {Q Q' K : Nat → Prop} {c fb L : Nat} {vv : Value} {f : Nat → Nat} {w w' : World} {e : Ending} (h : WriteP Q K c fb vv L f w e w') (hQ : ∀ g, Q g → Q' g) : WriteP Q' K c fb vv L f w e w' := by
  obtain ⟨v, h1, h2, h3⟩ := h
  exact ⟨v, h1, h2.mono (Nat.le_refl _) hQ, h3⟩
theorem cut_succ (L : Nat) (hL : L + 1 ≤ 3) (hrec : CutL L) : CutL (L + 1) := fun fb c vc base e vA v P f w hF hT hb he => by
  rcases hT.bound with ⟨rfl, hz⟩ | ⟨g, F, b, rfl, h1, h2, h3, h4⟩
  · exact cut_nil (L + 1) fb c vc base e vA P f w hF fun i hi => by
      unfold cutB
      rw [hz i hi]
      split <;> rfl
  · by_cases k1 : e ≤ base
    · exact cut_off (L + 1) fb c vc base e g vA P f w hF k1
    · by_cases k2 : base + roomN (L + 1) ≤ e
      · exact cut_whole (L + 1) fb c vc base e g b vA P f F w hF h2 hT hL (by omega) k2 hb
      · exact (cut_node L fb c vc base e g b vA (fun g => P g ∧ g < w.heap.size) f F w hL hrec hF h2 h4 (fun g hg => hg.2) (by omega) (by omega) hb).mono fun _ _ h => h.weak fun g hg => by
          rcases hg with h5 | h5
          · exact .inl h5.1
          · exact .inr h5
theorem cut_any : ∀ L, L ≤ 3 → CutL L
  | 0, _ => cut_zero
  | L + 1, h => cut_succ L h (cut_any L (by omega))
end Go.Proofs.Ytiffgeglbafenaa.tree
