/-
  Contracts of room, levelOf, raised.
-/
import Derived.Test.YtiffgeglbafenaaTreeFresh
import Derived.IntWalk
namespace Go.Proofs.Ytiffgeglbafenaa.tree
open Go.ChangeShapes Go.WideShapes Go.ChangeAt Go.RowKit Go.Proofs.Ytiffgeglbafenaa.kit Go.Deep
set_option linter.unusedVariables false
set_option maxRecDepth 100000
theorem room_any (L : Nat) (hL : L ≤ 3) (w : World) : Calls Try.prog 33 #[.int .i64 (L : Int)] w fun e w' => e = .returned (.int .i64 (roomN L : Nat)) ∧ w = w' := by
  have h4 : L = 0 ∨ L = 1 ∨ L = 2 ∨ L = 3 := by omega
  clear hL
  rcases h4 with rfl | rfl | rfl | rfl
  all_goals
    go_enter Try.func33, Try.ntmps33
    go_wp2
    go_ret
    exact ⟨rfl, rfl⟩
theorem levelOf_any (n : Nat) (hn : n ≤ 4096) (w : World) : Calls Try.prog 22 #[.int .i64 (n : Int)] w fun e w' => e = .returned (.int .i64 (lvl n : Nat)) ∧ w = w' := by
  have hlv := Lib.hid (lvl_le n)
  have hroom := Lib.hid (lvl_room hn)
  have hbel := Lib.hid (fun L => @lvl_below n L)
  go_enter Try.func22, Try.ntmps22
  go_wp2_with fail
  go_loopw [3] (fun x wr => ∃ i : Nat, x = .int .i64 i ∧ i ≤ lvl n ∧ w = wr) (fun x _ => 3 - (intOf x).toNat)
  case atStart => exact ⟨0, rfl, Nat.zero_le _, rfl⟩
  case round =>
    obtain ⟨i, rfl, hi, rfl⟩ := hrel
    have hl3 := hlv.out
    by_cases hlt : i < lvl n
    · have hb := hbel.out i hlt
      have hbi : ((roomN i : Nat) : Int) < (n : Int) := by omega
      go_wp2_with fail
      refine (room_any i (by omega) _).mono ?_
      rintro e w1 ⟨rfl, rfl⟩
      go_wp2
      go_roundw
      case rel => exact ⟨i + 1, by go_num, by omega, trivial⟩
      case measure => simp [intOf]; omega
    · have hie : i = lvl n := by omega
      subst hie
      have hbi : ¬ ((roomN (lvl n) : Nat) : Int) < (n : Int) := by have := hroom.out; omega
      go_wp2_with fail
      refine (room_any _ (by omega) _).mono ?_
      rintro e w1 ⟨rfl, rfl⟩
      go_wp2
      go_ret
      exact ⟨rfl, rfl⟩
/-- what raised leaves -/
def RaisedP (P : Nat → Prop) (c' c fb : Nat) (vv : Value) (level : Nat) (f : Nat → Nat) (w : World) (e : Ending) (w' : World) : Prop :=
  ∃ v', e = .returned v' ∧ Wt w' P c' c w.heap.size level w'.heap.size v' f ∧ Fb w' fb vv ∧ Alt (fun k => k = fb) w w'
theorem raise_step {P : Nat → Prop} {c' c B fb lv g : Nat} {vv : Value} {f : Nat → Nat} {wr w2 : World} {F' : Nat → Value} (hW : Wt wr P c' c B lv wr.heap.size (ptr g) f) (hfb : fb < B) (hB : B ≤ wr.heap.size) (hFb : Fb wr fb vv)
    (hN : Nd w2 wr.heap.size F' c (lv + 1)) (hk : ∀ j, j < 4 → F' (3 + j) = .pointer none) (hA : Alt (fun k => k = fb) wr w2) (hF2 : Fb w2 fb vv) (hz : ∀ i, roomN lv ≤ i → i < roomN (lv + 1) → f i = 0) :
    Nd (w2.setCell ⟨wr.heap.size, 3, none⟩ (ptr g)) wr.heap.size (fun j => if j = 3 then ptr g else F' j) c (lv + 1) ∧
    Wt (w2.setCell ⟨wr.heap.size, 3, none⟩ (ptr g)) P c' c B (lv + 1) (w2.setCell ⟨wr.heap.size, 3, none⟩ (ptr g)).heap.size (ptr wr.heap.size) f ∧ Fb (w2.setCell ⟨wr.heap.size, 3, none⟩ (ptr g)) fb vv ∧ Alt (fun k => k = fb) wr (w2.setCell ⟨wr.heap.size, 3, none⟩ (ptr g)) := by
  have hN3 : Nd (w2.setCell ⟨wr.heap.size, 3, none⟩ (ptr g)) wr.heap.size (fun j => if j = 3 then ptr g else F' j) c (lv + 1) := hN.set (Nat.le_refl _) rfl
  have hA3 : Alt (fun k => k = fb) wr (w2.setCell ⟨wr.heap.size, 3, none⟩ (ptr g)) := hA.set (.inr (Nat.le_refl _)) _
  have hF3 : Fb (w2.setCell ⟨wr.heap.size, 3, none⟩ (ptr g)) fb vv := by
    obtain ⟨m, hm⟩ := hF2
    exact ⟨m, hm.far (by have := hFb.lt; simp; omega) _⟩
  refine ⟨hN3, .inr ⟨wr.heap.size, _, rfl, hB, hN3.lt, hN3, ?_, fun j h1 h4 => ?_, hz⟩, hF3, hA3⟩
  · show Wt _ P c' c B lv wr.heap.size (ptr g) f
    exact hW.keep (fun k cs hP hb => hA3.same k hb.lt (hFb.ne hb)) (Nat.le_refl _) (fun k k1 k2 => hA3.same k k2 (by omega))
  · show (if 3 + j = 3 then _ else F' (3 + j)) = _
    rw [if_neg (by omega)]
    exact hk j h4
theorem raised_nil (fb L c vc : Nat) (vA : Option Addr) (sz : Int) (P : Nat → Prop) (c' : Nat) (f : Nat → Nat) (w : World) (hF : Fb w fb (.slice vA c vc)) (hz : ∀ i, i < roomN L → f i = 0) :
    Calls Try.prog 25 #[ptr fb, .agg #[.pointer none, .int .i64 sz], .int .i64 (L : Int)] w (RaisedP P c' c fb (.slice vA c vc) L f w) := by
  have hFH := Lib.hid hF
  have hzH := Lib.hid hz
  clear hF hz
  go_enter Try.func25, Try.ntmps25
  go_wp2
  go_ret
  exact ⟨_, rfl, .of (Tr.nil _ _ _ hzH.out), hFH.out.new ((New.refl w).alloc _), Alt.of_new ((New.refl w).alloc _)⟩
set_option maxHeartbeats 2000000 in
theorem raised_some (fb L lv g b c vc : Nat) (vA : Option Addr) (F : Nat → Value) (sz : Int) (P : Nat → Prop) (c' : Nat) (f : Nat → Nat) (w : World) (hF : Fb w fb (.slice vA c vc)) (hN : Nd w g F b lv) (hT : Tr w P c' lv (ptr g) f) (hL : lv ≤ L) (hL3 : L ≤ 3) (hz : ∀ i, roomN lv ≤ i → f i = 0) :
    Calls Try.prog 25 #[ptr fb, .agg #[ptr g, .int .i64 sz], .int .i64 (L : Int)] w (RaisedP P c' c fb (.slice vA c vc) L f w) := by
  have hn0 : New w (w.alloc (.cells #[ptr g, .int .i64 sz] 78)) := (New.refl w).alloc _
  have hF0 := Lib.hid (hF.new hn0)
  have hN0 := Lib.hid (hN.new hn0)
  have hT0 : Hid (Wt (w.alloc (.cells #[ptr g, .int .i64 sz] 78)) P c' c w.heap.size lv (w.alloc (.cells #[ptr g, .int .i64 sz] 78)).heap.size (ptr g) f) := .of (hT.new hn0)
  have hA0 : Hid (Alt (fun k => k = fb) w (w.alloc (.cells #[ptr g, .int .i64 sz] 78))) := Alt.of_new hn0
  have hfbH := Lib.hid hF.lt
  have hzH := Lib.hid hz
  clear hF hN hT hz hn0
  go_enter Try.func25, Try.ntmps25
  go_wp2_with fail
  go_loopg [7] (L - lv) (fun k x wr => ∃ (i g' b' : Nat) (F' : Nat → Value), x = ptr g' ∧ lv ≤ i ∧ i ≤ L ∧ Hid (i + k = L) ∧ Hid (Nd wr g' F' b' i) ∧ Hid (Wt wr P c' c w.heap.size i wr.heap.size (ptr g') f) ∧ Hid (Fb wr fb (.slice vA c vc)) ∧ Hid (Alt (fun k => k = fb) w wr))
  case atStart => exact ⟨lv, g, b, F, rfl, Nat.le_refl _, hL, by show _ = _; omega, hN0, hT0, hF0, hA0⟩
  case round =>
    obtain ⟨i, g', b', F', rfl, hi1, hi2, hk, hN, hT, hF, hA⟩ := hrel
    have q2 := hN.out.cell (i := 2) (by omega)
    rw [hN.out.lev] at q2
    by_cases hlt : i < L
    · obtain ⟨k', hk'⟩ : ∃ k', Hid (gk = k' + 1 ∧ i + 1 + k' = L) := ⟨gk - 1, by have := hk.out; exact ⟨by omega, by omega⟩⟩
      have hii : (i : Int) < (L : Int) := by omega
      go_wp2_with fail
      have hcast : ((i : Int) + 1) = ((i + 1 : Nat) : Int) := by omega
      rw [hcast]
      refine (Fresh_nil fb (i + 1) c vc vA wr hF.out).mono ?_
      rintro e w2 ⟨rfl, ⟨F2, hN2, hF2⟩, hFb2, hA2⟩
      have hst := Lib.hid (raise_step hT.out hfbH.out hA.out.size hF.out hN2 (fun j hj => by rw [hF2 (3 + j) (by omega) (by omega)]; unfold bareF; rw [if_neg (by omega), if_neg (by omega), if_pos (by omega)]) hA2 hFb2 (fun x h _ => hzH.out x (Nat.le_trans (roomN_mono hi1) h)))
      have n3 := hN2.cell (i := 3) (by omega)
      have z3 := hN2.row.frozen 3
      have hAt := Lib.hid (hA.out.trans hst.out.2.2.2)
      clear hN2 hA2 hFb2 hF2 hN hT hF hA
      show _
      dsimp only
      go_wp2
      obtain ⟨u1, u2, u3, _⟩ := hst.out
      go_roundg k'
      case measure => have := hk'.out; omega
      case rel => exact ⟨i + 1, _, _, _, rfl, by omega, by omega, hk'.out.2, u1, u2, u3, hAt.out⟩
    · have hie : i = L := by omega
      subst hie
      have hfin := Lib.hid (And.intro hT.out (And.intro hF.out hA.out))
      clear hk hN hT hF hA
      go_wp2
      go_ret
      exact ⟨_, rfl, hfin.out⟩
end Go.Proofs.Ytiffgeglbafenaa.tree
