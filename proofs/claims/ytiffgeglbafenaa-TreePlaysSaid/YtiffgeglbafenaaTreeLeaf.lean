/-
  Contract of write at a leaf.
-/
import Derived.Test.YtiffgeglbafenaaTreeRaise
import Derived.Test.YtiffgeglbafenaaArr
namespace Go.Proofs.Ytiffgeglbafenaa.tree
open Go.ChangeShapes Go.WideShapes Go.ChangeAt Go.RowKit Go.Proofs.Ytiffgeglbafenaa.kit Go.Deep
set_option linter.unusedVariables false
set_option maxRecDepth 100000
/-- bytes, read in blocks below N -/
def RdU (N : Nat) (w : World) (A : Option Addr) (l : Nat) (D : Nat → Nat) : Prop := RdI .u8 w A l (fun i => (D i : Nat)) ∧ (0 < l → ∀ b o, A = some ⟨b, o, none⟩ → b < N)
theorem RdU.of {w : World} {A : Option Addr} {l : Nat} {D : Nat → Nat} (h : RdI .u8 w A l (fun i => (D i : Nat))) {N : Nat} (hN : w.heap.size ≤ N) : RdU N w A l D :=
  ⟨h, fun h0 b o e => by
    obtain ⟨b', o', e', h1, _⟩ := h.2 h0
    rw [e] at e'
    cases e'
    omega⟩
theorem RdU.alt {N : Nat} {K : Nat → Prop} {w w' : World} {A : Option Addr} {l : Nat} {D : Nat → Nat} (h : RdU N w A l D) (ha : Alt K w w') (hK : ∀ k, K k → N ≤ k) : RdU N w' A l D := by
  refine ⟨⟨h.1.1, fun h0 => ?_⟩, h.2⟩
  obtain ⟨b, o, e, h1, h2⟩ := h.1.2 h0
  have hb := h.2 h0 b o e
  exact ⟨b, o, e, Nat.lt_of_lt_of_le h1 ha.size, fun i hi => ha.cell (h2 i hi) fun hk => by have := hK b hk; omega⟩
/-- what write leaves: nodes of the blocks Q, nothing changed but blocks K -/
def WriteP (Q K : Nat → Prop) (c fb : Nat) (vv : Value) (L : Nat) (f' : Nat → Nat) (w : World) (e : Ending) (w' : World) : Prop :=
  ∃ v', e = .returned v' ∧ Tr w' Q (c + 1) L v' f' ∧ Fb w' fb vv ∧ Alt K w w'
abbrev QW (P : Nat → Prop) (B top : Nat) (w : World) : Nat → Prop := fun g => P g ∨ (B ≤ g ∧ g < top) ∨ w.heap.size ≤ g
abbrev KW (fb B top : Nat) : Nat → Prop := fun k => k = fb ∨ (B ≤ k ∧ k < top)
def putB (base off l : Nat) (D f : Nat → Nat) (i : Nat) : Nat := if off ≤ base + i ∧ base + i < off + l then D (base + i - off) else f i
/-- a leaf that is written up to k -/
def leafF (base off l : Nat) (D f : Nat → Nat) (F : Nat → Value) (k j : Nat) : Value := if 7 ≤ j ∧ j < 7 + k then .int .u8 (putB base off l D f (j - 7) : Nat) else F j
theorem leafF_zero (base off l : Nat) (D f : Nat → Nat) (F : Nat → Value) : leafF base off l D f F 0 = F := by
  funext j
  unfold leafF
  rw [if_neg (by omega)]
theorem leaf_skip {w : World} {a c base off l k : Nat} {D f : Nat → Nat} {F : Nat → Value} (h : Nd w a (leafF base off l D f F k) c 0) (hF : ∀ i, i < 64 → F (7 + i) = .int .u8 (f i : Nat)) (hk : k < 64) (hn : ¬ (off ≤ base + k ∧ base + k < off + l)) : Nd w a (leafF base off l D f F (k + 1)) c 0 := by
  have : leafF base off l D f F (k + 1) = leafF base off l D f F k := by
    funext j
    unfold leafF
    by_cases h1 : 7 ≤ j ∧ j < 7 + k
    · rw [if_pos h1, if_pos (by omega)]
    · rw [if_neg h1]
      by_cases h2 : j = 7 + k
      · subst h2
        rw [if_pos (by omega), hF k hk]
        unfold putB
        rw [show 7 + k - 7 = k by omega, if_neg hn]
      · rw [if_neg (by omega)]
  rw [this]
  exact h
theorem leaf_put {w : World} {a c base off l k q : Nat} {D f : Nat → Nat} {F : Nat → Value} (h : Nd w a (leafF base off l D f F k) c 0) (hk : k < 64) (hq : base + k = off + q) (hl : q < l) : Nd (w.setCell ⟨a, 7 + k, none⟩ (.int .u8 (D q : Nat))) a (leafF base off l D f F (k + 1)) c 0 := by
  have h2 := h.set (k := 7 + k) (by omega) (v := .int .u8 (D q : Nat)) rfl
  have : leafF base off l D f F (k + 1) = fun j => if j = 7 + k then .int .u8 (D q : Nat) else leafF base off l D f F k j := by
    funext j
    unfold leafF
    by_cases h1 : j = 7 + k
    · subst h1
      rw [if_pos (by omega), if_pos rfl]
      unfold putB
      rw [show 7 + k - 7 = k by omega, if_pos (by omega), show base + k - off = q by omega]
    · rw [if_neg h1]
      by_cases h3 : 7 ≤ j ∧ j < 7 + k
      · rw [if_pos h3, if_pos (by omega)]
      · rw [if_neg h3, if_neg (by omega)]
  rw [this]
  exact h2
theorem write_leaf (fb c vc base off l cap N B top : Nat) (vA A : Option Addr) (v : Value) (P : Nat → Prop) (f D : Nat → Nat) (w : World) (hF : Fb w fb (.slice vA c vc)) (hT : Tr w P c 0 v f)
    (hD : RdU N w A l D) (hN : N ≤ fb) (hNB : N ≤ B) (hl : l ≤ 4096) (hoff : off ≤ 4096) (hbase : base ≤ 4096) :
    Calls Try.prog 24 #[ptr fb, v, .int .i64 (0 : Nat), .int .i64 base, .int .i64 off, .slice A l cap] w (WriteP (QW P B top w) (KW fb B top) c fb (.slice vA c vc) 0 (putB base off l D f) w) := by
  by_cases hov : base + 64 ≤ off ∨ off + l ≤ base
  · have hfin : Hid (Tr w (QW P B top w) (c + 1) 0 v (putB base off l D f) ∧ Fb w fb (.slice vA c vc) ∧ Alt (KW fb B top) w w) := ⟨(hT.mono (Nat.le_succ _) (fun g h => .inl h)).congr fun i hi => by
      have hi : i < 64 := hi
      unfold putB
      rw [if_neg (by omega)], hF, Alt.refl w⟩
    clear hT hD hF
    have h64 : ((roomN 0 : Nat) : Int) = 64 := rfl
    go_enter Try.func24, Try.ntmps24
    go_wp2_with fail
    refine (room_any 0 (by omega) w).mono ?_
    rintro e w1 ⟨rfl, rfl⟩
    dsimp only
    rw [h64]
    clear h64
    by_cases h1 : base + 64 ≤ off
    · have h1' : (base : Int) + 64 ≤ (off : Int) := by omega
      clear hov
      go_wp2
      go_ret
      exact ⟨_, rfl, hfin.out⟩
    · have h1' : ¬ (base : Int) + 64 ≤ (off : Int) := by omega
      have h2' : (off : Int) + (l : Int) ≤ (base : Int) := by omega
      clear hov
      go_wp2
      go_ret
      exact ⟨_, rfl, hfin.out⟩
  · have h64 : ((roomN 0 : Nat) : Int) = 64 := rfl
    have h1' : ¬ (base : Int) + 64 ≤ (off : Int) := by omega
    have h2' : ¬ (off : Int) + (l : Int) ≤ (base : Int) := by omega
    have hFH := Lib.hid hF
    have hTH := Lib.hid hT
    have hDH := Lib.hid hD
    obtain ⟨G, hG⟩ : ∃ G, Hid ((∀ i, i < 64 → G (7 + i) = .int .u8 (f i : Nat)) ∧ ∀ w', New w w' → Calls Try.prog 34 #[ptr fb, v, .int .i64 (0 : Nat)] w' (FreshP fb c (.slice vA c vc) 0 G w')) := by
      rcases hT with ⟨rfl, hz⟩ | ⟨g, F, b, rfl, h1, h2, h3, h4⟩
      · exact ⟨bareF ((0 : Nat) : Int), fun i hi => by rw [hz i hi]; unfold bareF; rw [if_neg (by omega), if_neg (by omega), if_neg (by omega)]; rfl, fun w' hn => Fresh_nil fb 0 c vc vA w' (hF.new hn)⟩
      · exact ⟨F, h4, fun w' hn => Fresh_like fb 0 b c vc g vA F _ w' (hF.new hn) (h2.new hn)⟩
    clear hF hT hD
    go_enter Try.func24, Try.ntmps24
    go_wp2_with fail
    refine (room_any 0 (by omega) w).mono ?_
    rintro e w1 ⟨rfl, rfl⟩
    dsimp only
    rw [h64]
    clear h64 hov
    go_upto_region 3 with fail
    go_cut [45] (fun t wx => t = .bool true ∧ New w wx)
    case first =>
      rcases hTH.out.form with ⟨rfl, _⟩ | ⟨g, F, b, rfl, _, hN', hb⟩
      · go_quiet (fail)
        go_wp2
        go_meet
        exact ⟨rfl, New.of_drewN _ _⟩
      · have n1 := hN'.cell (i := 1) (by omega)
        rw [hN'.bir] at n1
        obtain ⟨m, hm⟩ := hFH.out
        have b0 := hm.cell 0
        simp at b0
        have hb' : (b : Int) < (c : Int) := by omega
        clear hN' hm
        go_quiet (fail)
        go_wp2
        go_meet
        exact ⟨rfl, New.of_drewN _ _⟩
    obtain ⟨ht, hn⟩ := hcut
    rw [ht]
    clear ht
    have hn1 := Lib.hid hn
    clear hn
    go_wp2_with fail
    refine (hG.out.2 _ hn1.out).mono ?_
    rintro e w2 ⟨rfl, ⟨F, hN2, hF2⟩, hFb2, hA2⟩
    dsimp only
    have hA2' : Hid (Alt (KW fb B top) w w2) := (Alt.of_new hn1.out).trans (hA2.weak fun k hk => .inl hk)
    obtain ⟨a, ha⟩ : ∃ a, Hid (a = wc.heap.size) := ⟨_, rfl⟩
    have haw : Hid (w.heap.size ≤ a) := by rw [ha.out]; exact hn1.out.size
    have hF3 : Hid (∀ i, i < 64 → F (7 + i) = .int .u8 (f i : Nat)) := fun i hi => by rw [hF2 _ (by omega) (by omega)]; exact hG.out.1 i hi
    rw [← ha.out] at hN2 ⊢
    have hN0 : Hid (Nd w2 a (leafF base off l D f F 0) c 0) := by rw [leafF_zero]; exact hN2
    have hFb2 := Lib.hid hFb2
    clear hN2 hF2 hA2 hG hn1
    go_wp2_with fail
    go_loopw [52] (fun x wr => ∃ k : Nat, x = .int .i64 k ∧ k ≤ 64 ∧ Hid (Nd wr a (leafF base off l D f F k) c 0) ∧ Hid (Fb wr fb (.slice vA c vc)) ∧ Hid (Alt (KW fb B top) w wr)) (fun x _ => 64 - (intOf x).toNat)
    case atStart => exact ⟨0, rfl, by omega, hN0, hFb2, hA2'⟩
    case round =>
      obtain ⟨k, rfl, hk, hN3, hFb3, hA3⟩ := hrel
      by_cases hlt : k < 64
      · have hki : (k : Int) < 64 := by omega
        by_cases hin : off ≤ base + k ∧ base + k < off + l
        · obtain ⟨q, hq⟩ : ∃ q, base + k = off + q := ⟨base + k - off, by omega⟩
          have e1 : (base : Int) + (k : Int) - (off : Int) = (q : Int) := by omega
          have e2 : (q : Int) < (l : Int) := by omega
          have e3 : (0 : Int) ≤ (q : Int) := by omega
          have e4 : (0 : Int) ≤ (k : Int) := by omega
          have hDr := hDH.out.alt hA3.out fun x hx => by rcases hx with rfl | hx; exact hN; omega
          obtain ⟨db, dof, rfl, hdb, hdc⟩ := hDr.1.2 (by omega)
          have dq := hdc q (by omega)
          have n7 := hN3.out.cell (i := 7 + k) (by omega)
          have z7 := hN3.out.row.frozen (7 + k)
          have hfin := Lib.hid (And.intro (leaf_put hN3.out hlt hq (by omega)) (And.intro (show Fb (wr.setCell ⟨a, 7 + k, none⟩ (.int .u8 (D q : Nat))) fb (.slice vA c vc) from (by
            obtain ⟨cs, hcs⟩ := hN3.out.blk
            have hne := hFb3.out.ne hcs
            obtain ⟨m, hm⟩ := hFb3.out
            exact ⟨m, hm.far (Ne.symm hne) _⟩)) (hA3.out.set (k := 7 + k) (.inr haw.out) (.int .u8 (D q : Nat)))))
          clear hDr hdc hin hq hN3 hFb3 hA3
          go_wp2_with fail
          go_region
          go_wp2
          go_roundw
          case rel => exact ⟨k + 1, by go_num, by omega, hfin.out.1.new (New.refl _).drew, hfin.out.2.1.new (New.refl _).drew, hfin.out.2.2.drew⟩
          case measure => simp [intOf]; omega
        · have hfin := Lib.hid (leaf_skip hN3.out hF3.out hlt hin)
          by_cases h3 : base + k < off
          · have e1 : ¬ (0 : Int) ≤ (base : Int) + (k : Int) - (off : Int) := by omega
            clear hin h3
            go_wp2
            go_roundw
            case rel => exact ⟨k + 1, by go_num, by omega, hfin, hFb3, hA3⟩
            case measure => simp [intOf]; omega
          · have e1 : (0 : Int) ≤ (base : Int) + (k : Int) - (off : Int) := by omega
            have e2 : ¬ (base : Int) + (k : Int) - (off : Int) < (l : Int) := by omega
            clear hin h3
            go_wp2
            go_roundw
            case rel => exact ⟨k + 1, by go_num, by omega, hfin, hFb3, hA3⟩
            case measure => simp [intOf]; omega
      · have hke : k = 64 := by omega
        subst hke
        have hfin : Hid (Tr wr (QW P B top w) (c + 1) 0 (ptr a) (putB base off l D f) ∧ Fb wr fb (.slice vA c vc) ∧ Alt (KW fb B top) w wr) := by
          refine ⟨.inr ⟨a, _, c, rfl, .inr (.inr haw.out), hN3.out, Nat.lt_succ_self c, fun i hi => ?_⟩, hFb3.out, hA3.out⟩
          unfold leafF
          rw [if_pos (by omega), show 7 + i - 7 = i by omega]
        clear hN3 hFb3 hA3
        go_wp2
        go_ret
        exact ⟨_, rfl, hfin.out⟩
end Go.Proofs.Ytiffgeglbafenaa.tree
