/-
  Contract of the program's unhex.
-/
import Derived.Test.YtaommipcdcncnaaDoorDeskHexP
import Derived.Test.YtaommipcdcncnaaDoorDeskUndeci
import Derived.Test.YtaommipcdcncnaaDoorDeskShelf2
import Derived.Test.YtaommipcdcncnaaDoorRowK
namespace Go.Proofs.YtaommipcdcncnaaDoor.desk
open Go.ChangeShapes Go.WideShapes Go.ChangeAt Go.RowKit Go.Proofs.YtaommipcdcncnaaDoor.kit Go.Deep
set_option linter.unusedVariables false
set_option maxRecDepth 100000
def ixK (k : Nat) : Int := Lib.indexByte [48, 49, 50, 51, 52, 53, 54, 55, 56, 57, 97, 98, 99, 100, 101, 102] k.toUInt8
theorem ix_fin : ∀ x : Fin 256, ixK x.val = if hdB (UInt8.ofNat x.val) = true then (hdV (UInt8.ofNat x.val) : Int) else -1 := by decide +kernel
theorem ix_is (c : UInt8) : ixK c.toNat = if hdB c = true then (hdV c : Int) else -1 := by
  have h := ix_fin ⟨c.toNat, c.toNat_lt⟩
  simpa using h
theorem index_any (k : Nat) (w : World) : Calls Tryd.prog 50 #[.string ⟨#[48, 49, 50, 51, 52, 53, 54, 55, 56, 57, 97, 98, 99, 100, 101, 102]⟩, .int .u8 (k : Nat)] w fun e w' => e = .returned (.int .i64 (ixK k)) ∧ New w w' :=
  (sh_strings_IndexByte ⟨#[48, 49, 50, 51, 52, 53, 54, 55, 56, 57, 97, 98, 99, 100, 101, 102]⟩ (k : Nat) w).mono fun e w' h => ⟨h.1, h.2 ▸ New.refl _⟩
/-- bytes read from letters: a row of one's own -/
def HexR (s : Tx) (w : World) (e : Ending) (w' : World) : Prop := ∃ (v : Value) (f : Nat → Nat) (n : Nat) (b : Bool), e = .returned (.tuple #[v, .bool b]) ∧ HexP s f n b ∧ w'.ownsRow w.heap.size 5 1 v n (numL .u8 f n) ∧ New w w'
theorem HexR.of {s : Tx} {w w' : World} {v : Value} {f : Nat → Nat} {n : Nat} {b : Bool} (h : HexP s f n b) (ho : w'.ownsRow w.heap.size 5 1 v n (numL .u8 f n)) (hn : New w w') : HexR s w (.returned (.tuple #[v, .bool b])) w' := ⟨v, f, n, b, rfl, h, ho, hn⟩
theorem own_nil (w : World) (b : Nat) (f : Nat → Nat) : w.ownsRow b 5 1 (.slice none 0 0) 0 (numL .u8 f 0) := ⟨rfl, .inl ⟨rfl, rfl⟩⟩
theorem bits_pair : ∀ a b : Fin 16, bits .or .i64 ((a.val : Int) * 16) (b.val : Int) = ((16 * a.val + b.val : Nat) : Int) := by decide +kernel
theorem bits_hex {a b : Nat} (ha : a < 16) (hb : b < 16) : bits .or .i64 ((a : Int) * 16) (b : Int) = ((16 * a + b : Nat) : Int) := bits_pair ⟨a, ha⟩ ⟨b, hb⟩
def putF (f : Nat → Nat) (j y : Nat) (i : Nat) : Nat := if i = j then y else f i
theorem numL_put (f : Nat → Nat) (j y : Nat) : numL .u8 f j ++ [.int .u8 (y : Nat)] = numL .u8 (putF f j y) (j + 1) := by
  unfold numL
  rw [List.range_succ, List.map_append]
  congr 1
  · apply List.map_congr_left
    intro i hi
    have : i < j := List.mem_range.1 hi
    unfold putF
    rw [if_neg (by omega)]
  · simp [putF]
theorem infoByte : (Tryd.prog.info? 5).map (fun i => (i.zero, i.size, i.bytes)) = some (some (.int .u8 0), 1, 1) := by kernel_rfl
set_option maxHeartbeats 1000000 in
theorem unhex_any (s : Tx) (hs : s.length ≤ 1048576) (w : World) : Calls Tryd.prog 32 #[encStr s] w (HexR s w) := by
  by_cases hd : s = [45]
  · subst hd
    have hP := Lib.hid (HexP.dash (fun _ => 0) (fun _ => by decide))
    go_enter Tryd.func32, Tryd.ntmps32
    go_wp2
    exact bodyPost_ret (v := .tuple #[.slice none 0 0, .bool true]) (by simp [results, Tryd.results32, go_sem]) rfl (HexR.of hP.out (own_nil _ _ _) (New.refl _))
  have hdb : (s == [45]) = false := by simpa using hd
  by_cases h0 : s = []
  · subst h0
    have hP : Hid (HexP [] (fun _ => 0) 0 false) := HexP.odd (fun _ => by decide) (Nat.zero_le _) (by simp) (.inl rfl)
    clear hd hdb
    go_enter Tryd.func32, Tryd.ntmps32
    go_wp2
    exact bodyPost_ret (v := .tuple #[.slice none 0 0, .bool false]) (by simp [results, Tryd.results32, go_sem]) rfl (HexR.of hP.out (own_nil _ _ _) (New.refl _))
  have h0b : (s == []) = false := by simpa using h0
  obtain ⟨n, hn⟩ : ∃ n, Hid (n = s.length) := ⟨_, rfl⟩
  have hle : ∀ ty, (Builtin.len_ #[9] ty #[encStr s]).run Tryd.prog w = .ok (.int .i64 (n : Nat)) w := fun ty => by rw [hn.out]; exact str_len s w ty
  obtain ⟨v, hv⟩ : ∃ v, Hid (v = encStr s) := ⟨_, rfl⟩
  have hlen : Hid (∀ w' ty, (Builtin.len_ #[9] ty #[v]).run Tryd.prog w' = .ok (.int .i64 (n : Nat)) w') := fun w' ty => by rw [hv.out, hn.out]; exact str_len _ w' ty
  have hix : Hid (∀ w' i, i < n → (Instr.index 9 v (.int .i64 (i : Nat))).run Tryd.prog w' = .ok (.int .u8 ((s.getD i 0).toNat : Nat)) w') := fun w' i hi => by rw [hv.out]; exact str_ix s w' i (by rw [← hn.out]; exact hi)
  have hdH := Lib.hid hd
  clear hd h0
  by_cases hpar : n % 2 = 1
  · have hP : Hid (HexP s (fun _ => 0) 0 false) := HexP.odd (fun _ => by decide) (Nat.zero_le _) hdH.out (.inr (by rw [← hn.out]; exact hpar))
    have hrm : ((n : Int) % 2 != 0) = true := by
      simp
      omega
    go_enter Tryd.func32, Tryd.ntmps32
    go_upto_region 3 with fail
    go_wp2
    exact bodyPost_ret (v := .tuple #[.slice none 0 0, .bool false]) (by simp [results, Tryd.results32, go_sem]) rfl (HexR.of hP.out (own_nil _ _ _) (New.refl _))
  have hrm : ((n : Int) % 2 != 0) = false := by
    simp
    omega
  obtain ⟨N, hN⟩ : ∃ N, Hid (n = 2 * N) := ⟨n / 2, by show _ = _; omega⟩
  have hN' := hN.out
  have hN0 : 0 < N := by
    have h1 := hn.out
    cases s with
    | nil => simp at h0b
    | cons c r => simp at h1; omega
  have hnm : n ≤ 1048576 := by rw [hn.out]; exact hs
  have hNm : N ≤ 524288 := by omega
  clear hN'
  have hI : Hid (∀ (k : Nat) (w' : World), Calls Tryd.prog 50 #[.string ⟨#[48, 49, 50, 51, 52, 53, 54, 55, 56, 57, 97, 98, 99, 100, 101, 102]⟩, .int .u8 (k : Nat)] w' fun e w'' => e = .returned (.int .i64 (ixK k)) ∧ New w' w'') := fun k w' => index_any k w'
  obtain ⟨i1, hi1, hz0, hz1, hz2⟩ := info_parts infoByte
  go_enter Tryd.func32, Tryd.ntmps32
  go_upto_region 7 with fail
  rw [← hv.out]
  clear hle hrm hdb h0b
  go_loopw [5, 4] (fun x ov wr => ∃ (j : Nat) (f : Nat → Nat), x = .int .i64 ((2 * j : Nat)) ∧ j ≤ N ∧ Hid (∀ i, f i < 256) ∧ Hid (hexN f j = s.take (2 * j)) ∧ Hid (wr.ownsRow w.heap.size 5 1 ov j (numL .u8 f j)) ∧ Hid (New w wr)) (fun x _ _ => n - (intOf x).toNat)
  case atStart => exact ⟨0, fun _ => 0, rfl, Nat.zero_le _, Lib.hid (fun _ => by show 0 < 256; decide), Lib.hid rfl, Lib.hid (own_nil _ _ _), Lib.hid (New.refl _)⟩
  case round =>
    obtain ⟨j, f, rfl, hj, hf, hx, hO, hNw⟩ := hrel
    have hl1 := hlen.out wr
    obtain ⟨p, hp⟩ : ∃ p, Hid (p = 2 * j) := ⟨_, rfl⟩
    rw [← hp.out]
    by_cases hlt : j < N
    · have hpl : p + 1 < n := by rw [hp.out, hN.out]; omega
      have hil : (p : Int) < (n : Int) := by omega
      have hx1 := fun w' => hix.out w' p (by omega)
      have hx2 : ∀ w', (Instr.index 9 v (.int .i64 ((p : Int) + 1))).run Tryd.prog w' = .ok (.int .u8 ((s.getD (p + 1) 0).toNat : Nat)) w' := fun w' => hix.out w' (p + 1) hpl
      obtain ⟨c1, hc1⟩ : ∃ c, Hid (c = s.getD p 0) := ⟨_, rfl⟩
      obtain ⟨c2, hc2⟩ : ∃ c, Hid (c = s.getD (p + 1) 0) := ⟨_, rfl⟩
      rw [← hc1.out] at hx1
      have hx2' := hx2
      rw [← hc2.out] at hx2'
      clear hx2
      obtain ⟨k1, hk1⟩ : ∃ k, Hid (k = c1.toNat) := ⟨_, rfl⟩
      obtain ⟨k2, hk2⟩ : ∃ k, Hid (k = c2.toNat) := ⟨_, rfl⟩
      rw [← hk1.out] at hx1
      rw [← hk2.out] at hx2'
      have e1 := Lib.hid (ix_is c1)
      have e2 := Lib.hid (ix_is c2)
      rw [← hk1.out] at e1
      rw [← hk2.out] at e2
      go_upto_region 9 with fail
      (refine wp_region_quiet_new (by kernel_rfl) (by kernel_rfl) ?_; (repeat (first | go_big_quiet_step (first | (go_at_call 50; exact NewW.call _ (hI.out _ _))) | quiet_step (first | (go_at_call 50; exact NewW.call _ (hI.out _ _))))); refine wpQuiet_nil ?_; rintro W2 ⟨⟨_, hn_W2⟩, rfl⟩)
      have hO2 := Lib.hid (own_new hO.out hn_W2)
      have hN2 := Lib.hid (hNw.out.next hn_W2)
      clear hx1 hx2' hl1 hn_W2
      cases h1 : hdB c1
      · have e1' : ixK k1 = -1 := by rw [e1.out, h1]; rfl
        have hP : Hid (HexP s (fun _ => 0) 0 false) := HexP.digit (fun _ => by decide) (Nat.zero_le _) hdH.out (i := p) (by rw [← hn.out]; omega) (by rw [← hc1.out]; exact h1)
        rw [e1']
        go_wp2
        exact bodyPost_ret (v := .tuple #[.slice none 0 0, .bool false]) (by simp [results, Tryd.results32, go_sem]) rfl (HexR.of hP.out (own_nil _ _ _) hN2.out)
      obtain ⟨x1, hx1⟩ : ∃ x, Hid (x = hdV c1) := ⟨_, rfl⟩
      have hx16 : x1 < 16 := by rw [hx1.out]; exact hd_lt h1
      have e1' : ixK k1 = (x1 : Int) := by rw [e1.out, h1, hx1.out]; rfl
      rw [e1']
      clear e1'
      cases h2 : hdB c2
      · have e2' : ixK k2 = -1 := by rw [e2.out, h2]; rfl
        have hP : Hid (HexP s (fun _ => 0) 0 false) := HexP.digit (fun _ => by decide) (Nat.zero_le _) hdH.out (i := p + 1) (by rw [← hn.out]; exact hpl) (by rw [← hc2.out]; exact h2)
        rw [e2']
        go_wp2
        exact bodyPost_ret (v := .tuple #[.slice none 0 0, .bool false]) (by simp [results, Tryd.results32, go_sem]) rfl (HexR.of hP.out (own_nil _ _ _) hN2.out)
      obtain ⟨x2, hx2⟩ : ∃ x, Hid (x = hdV c2) := ⟨_, rfl⟩
      have hx26 : x2 < 16 := by rw [hx2.out]; exact hd_lt h2
      have e2' : ixK k2 = (x2 : Int) := by rw [e2.out, h2, hx2.out]; rfl
      rw [e2']
      clear e2'
      have hn1 : ¬ (x1 : Int) < 0 := by omega
      have hn2 : ¬ (x2 : Int) < 0 := by omega
      go_upto_region 12 with fail
      obtain ⟨y, hy⟩ : ∃ y, Hid (y = 16 * x1 + x2) := ⟨_, rfl⟩
      have hyb : y < 256 := by rw [hy.out]; omega
      have hbo : bits .or .i64 ((x1 : Int) * 16) (x2 : Int) = (y : Int) := by rw [hy.out]; exact bits_hex hx16 hx26
      have hym : (y : Int) % 256 = (y : Int) := by omega
      clear hil hn1 hn2
      go_wp2_with (first
          | (at_builtin; refine wpList_append_lies _ rfl (.tmp 39) (.tmp 45) 23 rfl w.heap.size 5 i1 _ 1 1 Tryd.underlying23 hi1 hz0 hz1 hz2 rfl (by decide) u4 j (numL .u8 f j) rfl (hO2.out.alloc _) ⟨W2.heap.size, 0, none⟩ 1 1 [.int .u8 (y : Nat)] rfl rfl (World.news_of_block (cs := #[.int .u8 _]) (t := 5) (fr := (0, 0)) (heap_alloc_new W2 _)) (by simp [Value.oneCell']) (by omega) (by unfold maxLen; omega) (by omega) (by have := hN2.out.size; simp; omega) _ rfl ?_
             intro g6 c6' w6 hown6 hgr6 hat6 hlt6
             have hown6 := Lib.hid hown6
             have hN6 : Hid (New w w6) := (hN2.out.alloc _).grown hgr6 fun r e => (hO2.out.lt r e).1
             clear hgr6 hat6 hlt6))
      go_roundw
      case rel =>
        refine ⟨j + 1, putF f j y, by rw [hp.out]; congr 1, by omega, fun i => ?_, ?_, ?_, hN6⟩
        · show putF f j y i < 256
          unfold putF
          split
          · exact hyb
          · exact hf.out i
        · show hexN _ _ = _
          have hpl2 := hpl
          rw [hp.out] at hpl2 hc1 hc2
          refine hex_pair (f := f) (by rw [← hn.out]; exact hpl2) hx.out (by rw [← hc1.out]; exact h1) (by rw [← hc2.out]; exact h2) _ (fun i hi => by unfold putF; rw [if_neg (by omega)]) ?_
          unfold putF
          rw [if_pos rfl, hy.out, hx1.out, hx2.out, hc1.out, hc2.out]
        · show World.ownsRow _ _ _ _ _ _ _
          rw [← numL_put]
          exact hown6.out
      case measure => simp [intOf]; omega
    · have hjn : j = N := by omega
      subst hjn
      have hil : ¬ (p : Int) < (n : Int) := by rw [hp.out, hN.out]; omega
      have hP : Hid (HexP s f j true) := HexP.good hf.out hN0 (by rw [hx.out, List.take_of_length_le (by rw [← hn.out, hN.out]; exact Nat.le_refl _)])
      go_wp2
      exact bodyPost_ret (v := .tuple #[u4, .bool true]) (by simp [results, Tryd.results32, go_sem]) rfl (HexR.of hP.out hO.out hNw.out)
end Go.Proofs.YtaommipcdcncnaaDoor.desk
