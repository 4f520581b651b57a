/-
  Contract of the program's Hear.
-/
import Derived.Test.YtaommipcdcncnaaDoorDeskHearM
import Derived.Test.YtaommipcdcncnaaDoorDeskSplit
import Derived.Test.YtaommipcdcncnaaDoorDeskNumber
import Derived.Test.YtaommipcdcncnaaDoorDeskUnhex
import Derived.Deep.DeepCutAuto
import Derived.Deep.CutBlock
namespace Go.Proofs.YtaommipcdcncnaaDoor.desk
open Go.ChangeShapes Go.WideShapes Go.ChangeAt Go.RowKit Go.Proofs.YtaommipcdcncnaaDoor.kit Go.Deep
set_option linter.unusedVariables false
set_option maxRecDepth 100000
def tdA (code : Int) (dn : Bool) (size : Int) (A : Option Addr) (n c : Nat) (B : Option Addr) (m e : Nat) : Array Value := #[.int .i64 code, .bool dn, .int .i64 size, .slice A n c, .slice B m e]
abbrev tdZ : Array Value := tdA 0 false 0 none 0 0 none 0 0
theorem td_one (code : Int) (dn : Bool) (size : Int) (A : Option Addr) (n c : Nat) (B : Option Addr) (m e : Nat) : (tdA code dn size A n c B m e).all (·.oneCell') = true := by simp [tdA, Value.oneCell']
def HrR (line : Tx) (w : World) (e : Ending) (w' : World) : Prop := ∃ code size dn A n c f B e' l cd, e = .returned (.tuple #[.agg (tdA code dn size A n c B (List.length l) e'), .int .i64 cd]) ∧ HrP line code size dn f n l cd ∧ (RdI .u8 w' A n (fun i => (f i : Nat)) ∧ RdS w' B l) ∧ New w w'
theorem rdS_nil (w : World) (B : Option Addr) : RdS w B [] := ⟨Nat.zero_le _, fun h => absurd h (Nat.lt_irrefl 0), fun s hs => by cases hs⟩
theorem HrR.none {line : Tx} {w w' : World} (h : NoTold line) (hn : New w w') : HrR line w (.returned (.tuple #[.agg tdZ, .int .i64 4])) w' :=
  ⟨0, 0, false, Option.none, 0, 0, fun _ => 0, Option.none, 0, [], 4, rfl, hear_none h, ⟨rdI_nil _ _, rdS_nil _ _⟩, hn⟩
/-- after the first word: where the words go on -/
def HPos (WB : World) (T H n : Nat) (P : List Tx) (p : Value) (wx : World) : Prop := ∃ o m code, p = .slice (some ⟨H, o, none⟩) m m ∧ m + o = n ∧ Blk wx T 26 (tdA code false 0 none 0 0 none 0 0) ∧ HCandP P (P.drop o) code ∧ (-9223372036854775808 ≤ code ∧ code ≤ 9223372036854775807) ∧ New WB wx
/-- the candidate in memory -/
def HMem (WB : World) (T : Nat) (P : List Tx) (wx : World) : Prop := ∃ code size dn A n c f B e l Q, Blk wx T 26 (tdA code dn size A n c B (List.length l) e) ∧ ToldOk wx code size A n f B e l ∧ HCandP P Q code ∧ HCandQ Q size dn f n l ∧ New WB wx ∧ (∀ b off, A = some ⟨b, off, none⟩ → b ≠ T ∧ WB.heap.size ≤ b)
theorem set_rdI {w : World} {A : Option Addr} {n : Nat} {Z : Nat → Int} (h : RdI .u8 w A n Z) {T : Nat} (hT : ∀ b off, A = some ⟨b, off, none⟩ → b ≠ T) (k : Nat) (u : Value) : RdI .u8 (w.setCell ⟨T, k, none⟩ u) A n Z := by
  refine ⟨h.1, fun h0 => ?_⟩
  obtain ⟨b, off, hA, hb, hc⟩ := h.2 h0
  have ha : Alt (fun g => g = T) w (w.setCell ⟨T, k, none⟩ u) := Alt.set (K := fun g => g = T) (Alt.refl w) (.inl rfl) _
  exact ⟨b, off, hA, Nat.lt_of_lt_of_le hb ha.size, fun i hi => ha.cell (hc i hi) (hT b off hA)⟩
theorem row_rdI {w : World} {A : Option Addr} {n : Nat} {Z : Nat → Int} (h : RdI .u8 w A n Z) {T : Nat} (hT : ∀ b off, A = some ⟨b, off, none⟩ → b ≠ T) (cs : Array Value) : RdI .u8 (w.setRow T cs) A n Z := by
  refine ⟨h.1, fun h0 => ?_⟩
  obtain ⟨b, off, hA, hb, hc⟩ := h.2 h0
  have ha : Alt (fun g => g = T) w (w.setRow T cs) := Alt.row (K := fun g => g = T) (Alt.refl w) (.inl rfl) _
  exact ⟨b, off, hA, Nat.lt_of_lt_of_le hb ha.size, fun i hi => ha.cell (hc i hi) (hT b off hA)⟩
theorem tail_drop (s : Tx) (k : Nat) : (tailT ((cutT s).drop k)).length ≤ s.length + 1 := by
  obtain ⟨h, t, e, hs, _⟩ := cut_join s
  have h1 : (tailT (cutT s)).length = s.length + 1 := by
    rw [e, tail_cons]
    simp [hs]
  have h2 : tailT (cutT s) = tailT ((cutT s).take k) ++ tailT ((cutT s).drop k) := by rw [← tailT_app, List.take_append_drop]
  rw [← h1, h2, List.length_append]
  omega
theorem parts_rdS {w : World} {H o' k m : Nat} {line : Tx} {P : List Tx} (hP : P = cutT line) (hl : line.length ≤ 1048576) (hk : 0 < k) (hm : m + k = P.length) (hH : H < w.heap.size) (ho : 0 < m → o' = k) (hc : ∀ i, i < P.length → w.cell? ⟨H, i, none⟩ = some (encStr (P.getD i []))) : RdS w (some ⟨H, o', none⟩) (P.drop k) := by
  have hd : (P.drop k).length = m := by rw [List.length_drop]; omega
  refine ⟨?_, fun h0 => ?_, fun s hs => ?_⟩
  · have h2 := cut_len_le line
    rw [← hP] at h2
    omega
  · rw [hd] at h0
    refine ⟨H, o', rfl, hH, fun i hi => ?_⟩
    rw [hd] at hi
    rw [ho h0, getD_drop]
    exact hc (k + i) (by omega)
  · refine Nat.le_trans (cut_mem_len line s ?_) hl
    rw [← hP]
    exact List.mem_of_mem_drop hs
set_option maxHeartbeats 2000000 in
theorem Hear_any (line : Tx) (hl : line.length ≤ 1048576) (w : World) (hM : MaxIs w) (hE : ErrsAre w) (hT : Lib.TabIs Tryd.prog w "internal/strconv.uint64pow10" .u64 Lib.pow10Tab) :
    Calls Tryd.prog 14 #[encStr line] w (HrR line w) := by
  obtain ⟨P, hP⟩ : ∃ P, Hid (P = cutT line) := ⟨_, rfl⟩
  obtain ⟨n, hn⟩ : ∃ n, Hid (n = P.length) := ⟨_, rfl⟩
  have hn0 : 0 < n := by
    obtain ⟨p0, pt, hcut, _⟩ := cut_join line
    rw [hn.out, hP.out, hcut]
    simp
  have hnm : n ≤ 1048577 := by
    rw [hn.out, hP.out]
    have := cut_len_le line
    omega
  have hPl : Hid (∀ i, (P.getD i []).length ≤ 1048576) := by
    intro i
    by_cases hi : i < P.length
    · have : P.getD i [] ∈ cutT line := by rw [← hP.out]; exact getD_mem hi
      exact Nat.le_trans (cut_mem_len line _ this) hl
    · rw [List.getD, List.getElem?_eq_none (by omega)]
      exact Nat.zero_le _
  have hS : Hid (∀ w', New w w' → Calls Tryd.prog 28 #[encStr line, .string ⟨#[32]⟩] w' fun e w'' => e = .returned (.slice (some ⟨w'.heap.size, 0, none⟩) n n) ∧ Blk w'' w'.heap.size 9 (P.map encStr).toArray ∧ New w' w'') := fun w' hn' => by rw [hn.out, hP.out]; exact split_any line hl w' (hM.new hn')
  have hEH := Lib.hid hE
  have hTH := Lib.hid hT
  have hlH := Lib.hid hl
  obtain ⟨W1, hW1⟩ : ∃ W1, W1 = w.alloc (.cells #[.int .i64 0, .bool false, .int .i64 0, .slice none 0 0, .slice none 0 0] 26) := ⟨_, rfl⟩
  have hN1 : Hid (New w W1) := by show New _ _; rw [hW1]; exact (New.refl w).alloc _
  have hb1 : Hid (Blk W1 w.heap.size 26 tdZ) := by show Blk _ _ _ _; rw [hW1]; exact Blk.fresh _ _ _
  obtain ⟨v, hv⟩ : ∃ v, Hid (v = encStr line) := ⟨_, rfl⟩
  rw [← hv.out] at hS ⊢
  clear hM hE hT hl
  go_enter Tryd.func14, Tryd.ntmps14
  go_upto_region 1 with fail
  rw [← hW1]
  clear hW1
  obtain ⟨H, hH⟩ : ∃ H, Hid (H = W1.heap.size) := ⟨_, rfl⟩
  go_upto_region 2 with (go_at_call 28; refine (hS.out _ hN1.out).mono ?_; rintro e WB ⟨rfl, hb2, hn2⟩; have hb2 := Lib.hid hb2; have hn2 := Lib.hid hn2)
  rw [← hH.out]
  rw [← hH.out] at hb2
  have hHc : Hid (∀ i, i < n → WB.cell? ⟨H, i, none⟩ = some (encStr (P.getD i []))) := fun i hi => by
    rw [hb2.out.cell]
    have hi2 : i < P.length := by rw [← hn.out]; exact hi
    simp [List.getD, hi2]
  have hNB := Lib.hid (hN1.out.next hn2.out)
  have hbB := Lib.hid (hb1.out.new hn2.out)
  obtain ⟨W3, hW3⟩ : ∃ W3, W3 = WB.alloc (.cells #[.int .i64 0, .bool false, .int .i64 0, .slice none 0 0, .slice none 0 0] 26) := ⟨_, rfl⟩
  obtain ⟨T, hTT⟩ : ∃ T, Hid (T = WB.heap.size) := ⟨_, rfl⟩
  have hN3 : Hid (New WB W3) := by show New _ _; rw [hW3]; exact (New.refl WB).alloc _
  have hb3 : Hid (Blk W3 T 26 tdZ) := by show Blk _ _ _ _; rw [hW3, hTT.out]; exact Blk.fresh _ _ _
  have hTw : Hid (WB.heap.size ≤ T) := by show _ ≤ _; rw [hTT.out]; exact Nat.le_refl _
  have hHw : Hid (H < WB.heap.size) := hb2.out.lt
  have hHB : Hid (∀ w', New WB w' → ∀ i, i < n → w'.cell? ⟨H, i, none⟩ = some (encStr (P.getD i []))) := fun w' hn' i hi => (hn'.cell (lt_of_cell (hHc.out i hi))).trans (hHc.out i hi)
  have hnum : Hid (∀ (q : Tx), q.length ≤ 1048576 → ∀ w', New WB w' → Calls Tryd.prog 31 #[encStr q] w' fun e w'' => ∃ n b, e = .returned (.tuple #[.int .i64 n, .bool b]) ∧ NumP q n b ∧ New w' w'') := fun q hq w' hn' =>
    number_any q hq w' (hEH.out.new (hNB.out.next hn')) (tab_new hTH.out (hNB.out.next hn'))
  obtain ⟨p0, hp0⟩ : ∃ p, Hid (p = P.getD 0 []) := ⟨_, rfl⟩
  obtain ⟨p1, hp1⟩ : ∃ p, Hid (p = P.getD 1 []) := ⟨_, rfl⟩
  go_upto_region 3 with fail
  rw [← hW3, ← hTT.out]
  clear hW3 hb2
  have e0 := hHB.out W3 hN3.out 0 hn0
  rw [← hp0.out] at e0
  have hni : (0 : Int) < (n : Int) := by omega
  obtain ⟨bno, hbno⟩ : ∃ b, Hid (b = decide (p0 = noT ∧ 1 < n)) := ⟨_, rfl⟩
  go_cut [20] (fun q wx => q = .bool bno ∧ W3 = wx)
  case first =>
    by_cases h1 : p0 = [110, 111]
    · have h1H := Lib.hid h1
      subst h1
      by_cases h2 : 1 < n
      · have h2i : (1 : Int) < (n : Int) := by omega
        have hbe : Hid (bno = true) := by show _ = _; rw [hbno.out]; exact decide_eq_true ⟨rfl, h2⟩
        go_wp2
        go_meet
        exact ⟨by rw [hbe.out], rfl⟩
      · have h2i : ¬ (1 : Int) < (n : Int) := by omega
        have hbe : Hid (bno = false) := by show _ = _; rw [hbno.out]; exact decide_eq_false fun h => h2 h.2
        go_wp2
        go_meet
        exact ⟨by rw [hbe.out], rfl⟩
    · have h1b : (p0 == [110, 111]) = false := by simpa using h1
      have hbe : Hid (bno = false) := by show _ = _; rw [hbno.out]; exact decide_eq_false fun h => h1 h.1
      clear h1
      go_wp2
      go_meet
      exact ⟨by rw [hbe.out], rfl⟩
  case rest =>
    obtain ⟨rfl, rfl⟩ := hcut
    go_upto_if 20 with fail
    go_cut [4] (fun p wx => HPos WB T H n P p wx)
    case first =>
      cases bno
      · have hno : Hid (¬ (P.getD 0 [] = noT ∧ 1 < P.length)) := by
          rw [← hp0.out, ← hn.out]
          intro h
          have := hbno.out
          rw [decide_eq_true h] at this
          cases this
        have hfin : Hid (HPos WB T H n P (.slice (some ⟨H, 0, none⟩) n n) W3) := ⟨0, n, 0, rfl, rfl, hb3.out, .inr ⟨hno.out, rfl, List.drop_zero⟩, ⟨by decide, by decide⟩, hN3.out⟩
        go_wp2
        go_meet
        exact hfin.out
      · have hyes : p0 = noT ∧ 1 < n := of_decide_eq_true hbno.out.symm
        have hyH := Lib.hid hyes
        have e1 := hHB.out W3 hN3.out 1 hyes.2
        rw [← hp1.out] at e1
        have h1i : (1 : Int) < (n : Int) := by have := hyes.2; omega
        have hnm1 := Lib.hid (hnum.out p1 (by rw [hp1.out]; exact hPl.out 1) W3 hN3.out)
        obtain ⟨o', hsl, ho'⟩ := sl_tail H 0 n 1 1 rfl (Nat.le_of_lt hyes.2)
        have ho' := Lib.hid (ho' hyes.2)
        obtain ⟨m, hm⟩ : ∃ m, Hid (n - 1 = m) := ⟨_, rfl⟩
        rw [hm.out] at hsl
        clear hyes e0
        go_upto_region 5 with (first
          | (go_at_call 31; refine hnm1.out.mono ?_; rintro e w4 ⟨x, b, rfl, hPx, hn4⟩
             have hPx := Lib.hid hPx
             have hn4 := Lib.hid hn4))
        have hb4 := Lib.hid (hb3.out.new hn4.out)
        have hN4 := Lib.hid (hN3.out.next hn4.out)
        have cz := hb4.out.cell 0
        have fz := hb4.out.frozen 0
        simp [tdZ, tdA] at cz
        have hfin : Hid (HPos WB T H n P (.slice (some ⟨H, o', none⟩) m m) (w4.setCell ⟨T, 0, none⟩ (.int .i64 x)).drew) := by
          have h1 := hyH.out.2
          have h2 := hm.out
          refine ⟨1, m, x, by rw [ho'.out], by omega, ?_, .inl ⟨by rw [← hp0.out]; exact hyH.out.1, by rw [← hn.out]; exact h1, ⟨b, by rw [← hp1.out]; exact hPx.out⟩, rfl⟩, hPx.out.1, (hN4.out.set hTw.out _).drew⟩
          have h := (hb4.out.put 0 (.int .i64 x)).drew
          simpa [tdZ, tdA] using h
        obtain ⟨v4, hv4⟩ : ∃ v4 : Value, Hid (v4 = .slice (some ⟨H, 0, none⟩) n n) := ⟨_, rfl⟩
        rw [← hv4.out] at hsl ⊢
        clear h1i e1
        go_region
        go_wp2
        go_meet
        exact hfin.out
    case rest =>
      obtain ⟨o, m, code, rfl, hmo, hbx, hcp, hcb, hNx⟩ : HPos WB T H n P _ wc := hcut
      have hmo := Lib.hid hmo
      have hbx := Lib.hid hbx
      have hcp := Lib.hid hcp
      have hcb := Lib.hid hcb
      have hNx := Lib.hid hNx
      have hb3 := ()
      have hN3 := ()
      go_upto_if 34 with fail
      go_cut [] (fun wx => HMem WB T P wx)
      case first =>
        have hPn : P.length = n := hn.out.symm
        have hon := hmo.out
        by_cases h3 : 3 ≤ m
        · have h3i : (3 : Int) ≤ (m : Int) := by omega
          have h3j : (2 : Int) < (m : Int) := by omega
          have h3k : (1 : Int) < (m : Int) := by omega
          obtain ⟨m3, hm3⟩ : ∃ m3, Hid (m - 3 = m3) := ⟨_, rfl⟩
          have hm3e : Hid (m = m3 + 3) := by have := hm3.out; show _ = _; omega
          obtain ⟨q1, hq1⟩ : ∃ q, Hid (q = P.getD (o + 1) []) := ⟨_, rfl⟩
          obtain ⟨q2, hq2⟩ : ∃ q, Hid (q = P.getD (o + 2) []) := ⟨_, rfl⟩
          obtain ⟨q3, hq3⟩ : ∃ q, Hid (q = P.getD (o + 3) []) := ⟨_, rfl⟩
          have hlx : Hid ((P.drop (o + 3)).length = m3) := by show _ = _; rw [List.length_drop, hPn]; have := hm3e.out; omega
          have hPn := Lib.hid hPn
          have hon := Lib.hid hon
          have hq2l : Hid (q2.length ≤ 1048576) := by show _ ≤ _; rw [hq2.out]; exact hPl.out _
          have e1 := hHB.out wc hNx.out (o + 1) (by have := hon.out; omega)
          rw [← hq1.out] at e1
          have hc1 := Lib.hid (hnum.out q1 (by rw [hq1.out]; exact hPl.out _) wc hNx.out)
          clear h3
          go_upto_region 8 with (first
            | (go_at_call 31; refine hc1.out.mono ?_; rintro e w4 ⟨x, b, rfl, hPx, hn4⟩
               have hPx := Lib.hid hPx
               have hn4 := Lib.hid hn4
               have hb4 := Lib.hid (hbx.out.new hn4.out)
               have hN4 := Lib.hid (hNx.out.next hn4.out)
               have cz := hb4.out.cell 2
               have fz := hb4.out.frozen 2
               simp [tdA] at cz))
          obtain ⟨W5, hW5⟩ : ∃ W5, W5 = w4.setCell ⟨T, 2, none⟩ (.int .i64 x) := ⟨_, rfl⟩
          have hb5 : Hid (Blk W5 T 26 (tdA code false x none 0 0 none 0 0)) := by
            show Blk _ _ _ _
            rw [hW5]
            have h := hb4.out.put 2 (.int .i64 x)
            simpa [tdA] using h
          have hN5 : Hid (New WB W5) := by show New _ _; rw [hW5]; exact hN4.out.set hTw.out _
          rw [← hW5]
          clear hW5 cz fz e1
          have e2 := hHB.out W5 hN5.out (o + 2) (by have := hon.out; have := hm3e.out; omega)
          rw [← hq2.out] at e2
          have hc2 := Lib.hid (unhex_any q2 hq2l.out W5)
          go_upto_region 9 with (first
            | (go_at_call 32; refine hc2.out.mono ?_; rintro e w6 ⟨v2, g, nn, b', rfl, hPh, ho6, hn6⟩
               obtain ⟨R2, c2, rfl⟩ := own_slice ho6
               have hPh := Lib.hid hPh
               have ho6 := Lib.hid ho6
               have hn6 := Lib.hid hn6
               have hb6 := Lib.hid (hb5.out.new hn6.out)
               have hN6 := Lib.hid (hN5.out.next hn6.out)
               have cz := hb6.out.cell 3
               have fz := hb6.out.frozen 3
               simp [tdA] at cz))
          have hblk : Hid (∀ b off, R2 = some ⟨b, off, none⟩ → b ≠ T ∧ WB.heap.size ≤ b) := fun b off h => by
            subst h
            have h1 := (ho6.out.lt b rfl).1
            have h2 := hb5.out.lt
            have h3 := hN5.out.size
            exact ⟨by omega, by omega⟩
          have hnl : Hid (nn ≤ 1048576) := Nat.le_trans hPh.out.1.2 hq2l.out
          have hd6 := Lib.hid (own_rdI ho6.out (by have := hnl.out; unfold maxLen; omega))
          obtain ⟨W7, hW7⟩ : ∃ W7, W7 = w6.setCell ⟨T, 3, none⟩ (.slice R2 nn c2) := ⟨_, rfl⟩
          have hb7 : Hid (Blk W7 T 26 (tdA code false x R2 nn c2 none 0 0)) := by
            show Blk _ _ _ _
            rw [hW7]
            have h := hb6.out.put 3 (.slice R2 nn c2)
            simpa [tdA] using h
          have hN7 : Hid (New WB W7) := by show New _ _; rw [hW7]; exact hN6.out.set hTw.out _
          have hd7 : Hid (RdI .u8 W7 R2 nn (fun i => (g i : Nat))) := by show RdI _ _ _ _ _; rw [hW7]; exact set_rdI hd6.out (fun b off h => (hblk.out b off h).1) _ _
          rw [← hW7]
          clear hW7 cz fz e2
          obtain ⟨o3, hsl, ho3⟩ := sl_tail H o m 3 3 rfl (by have := hm3e.out; omega)
          have ho3 : Hid (0 < m3 → o3 = o + 3) := fun h => ho3 (by have := hm3e.out; omega)
          rw [hm3.out] at hsl
          obtain ⟨v4, hv4⟩ : ∃ v4 : Value, Hid (v4 = .slice (some ⟨H, o, none⟩) m m) := ⟨_, rfl⟩
          rw [← hv4.out] at hsl ⊢
          go_upto_region 10 with fail
          clear hsl
          have hQ : Hid (∀ dn l, ((dn = true ∧ ∃ r, P.drop (o + 3) = doneT :: r ∧ l = r) ∨ (dn = false ∧ (∀ r, P.drop (o + 3) ≠ doneT :: r) ∧ l = P.drop (o + 3))) → HCandQ (P.drop o) x dn g nn l) := fun dn l h => by
            refine .inl ⟨?_, ⟨b, ?_⟩, ⟨b', ?_⟩, ?_⟩
            · rw [List.length_drop]
              have h1 := hPn.out
              have h2 := hon.out
              have h3 := hm3e.out
              omega
            · rw [getD_drop, ← hq1.out]
              exact hPx.out
            · rw [getD_drop, ← hq2.out]
              exact hPh.out
            · rw [List.drop_drop]
              exact h
          have hfin : Hid (∀ (dn : Bool) (k o4 mm : Nat) (w' : World), 0 < k → mm + k = P.length → (0 < mm → o4 = k) → HCandQ (P.drop o) x dn g nn (P.drop k) → Blk w' T 26 (tdA code dn x R2 nn c2 (some ⟨H, o4, none⟩) mm mm) → New WB w' → RdI .u8 w' R2 nn (fun i => (g i : Nat)) → HMem WB T P w') := fun dn k o4 mm w' hk hmm ho4 hq hb' hN' hd' => by
            have hll : (P.drop k).length = mm := by rw [List.length_drop]; omega
            have hnam : RdS w' (some ⟨H, o4, none⟩) (P.drop k) := parts_rdS hP.out hlH.out hk hmm (Nat.lt_of_lt_of_le hHw.out hN'.size) ho4 fun i hi => hHB.out w' hN' i (by rw [hn.out]; exact hi)
            refine ⟨code, x, dn, R2, nn, c2, g, some ⟨H, o4, none⟩, mm, P.drop k, P.drop o, by rw [hll]; exact hb', ⟨hcb.out.1, hcb.out.2, hPx.out.1.1, hPx.out.1.2, hd', hPh.out.1.1, hnl.out, hnam, by rw [hll]; exact Nat.le_refl _, ?_, fun h => (by cases h), ?_, tab_new hTH.out (hNB.out.next hN')⟩, hcp.out, hq, hN', hblk.out⟩
            · have := hnam.1
              omega
            · have h1 := tail_drop line k
              rw [← hP.out] at h1
              have := hlH.out
              omega
          have hw7 : Hid (∀ k u, RdI .u8 (W7.setCell ⟨T, 1, none⟩ u) R2 nn (fun i => (g i : Nat)) ∧ RdI .u8 ((W7.setCell ⟨T, 1, none⟩ u).setCell ⟨T, 4, none⟩ k) R2 nn (fun i => (g i : Nat))) := fun k u => ⟨set_rdI hd7.out (fun b off h => (hblk.out b off h).1) _ _, set_rdI (set_rdI hd7.out (fun b off h => (hblk.out b off h).1) _ _) (fun b off h => (hblk.out b off h).1) _ _⟩
          have cz := hb7.out.cell 1
          have fz := hb7.out.frozen 1
          simp [tdA] at cz
          by_cases hz : m3 = 0
          · subst hz
            go_upto_region 11 with fail
            obtain ⟨W8, hW8⟩ : ∃ W8, W8 = W7.setCell ⟨T, 1, none⟩ (.bool false) := ⟨_, rfl⟩
            have hb8 : Hid (Blk W8 T 26 (tdA code false x R2 nn c2 none 0 0)) := by
              show Blk _ _ _ _
              rw [hW8]
              have h := hb7.out.put 1 (.bool false)
              simpa [tdA] using h
            have hN8 : Hid (New WB W8) := by show New _ _; rw [hW8]; exact hN7.out.set hTw.out _
            rw [← hW8]
            clear cz fz
            have cy := hb8.out.cell 1
            have cz := hb8.out.cell 4
            have fz := hb8.out.frozen 4
            simp [tdA] at cy cz
            have hg : Hid (HMem WB T P (W8.setCell ⟨T, 4, none⟩ (.slice (some ⟨H, o3, none⟩) 0 0))) := by
              refine hfin.out false (o + 3) o3 0 _ (by omega) ?_ (fun h => absurd h (Nat.lt_irrefl 0)) (hQ.out false _ (.inr ⟨rfl, fun r e => ?_, rfl⟩)) ?_ (hN8.out.set hTw.out _) ?_
              · have h1 := hPn.out
                have h2 := hon.out
                have h3 := hm3e.out
                omega
              · have := hlx.out
                rw [e] at this
                simp at this
              · have h := hb8.out.put 4 (.slice (some ⟨H, o3, none⟩) 0 0)
                simpa [tdA] using h
              · rw [hW8]
                exact (hw7.out _ _).2
            clear hW8
            go_wp2
            go_meet
            exact hg.out
          · have hzi : (0 : Int) < (m3 : Int) := by omega
            have hoe := ho3.out (by omega)
            subst hoe
            have e3 := hHB.out W7 hN7.out (o + 3) (by have := hon.out; have := hm3e.out; omega)
            rw [← hq3.out] at e3
            have hdc : Hid (P.drop (o + 3) = q3 :: P.drop (o + 4)) := by
              show _ = _
              have hlt : o + 3 < P.length := by have := hPn.out; have := hon.out; have := hm3e.out; omega
              rw [List.drop_eq_getElem_cons hlt, hq3.out, List.getD, List.getElem?_eq_getElem hlt]
              rfl
            by_cases hd : q3 = [100, 111, 110, 101]
            · subst hd
              go_upto_region 11 with fail
              obtain ⟨W8, hW8⟩ : ∃ W8, W8 = W7.setCell ⟨T, 1, none⟩ (.bool true) := ⟨_, rfl⟩
              have hb8 : Hid (Blk W8 T 26 (tdA code true x R2 nn c2 none 0 0)) := by
                show Blk _ _ _ _
                rw [hW8]
                have h := hb7.out.put 1 (.bool true)
                simpa [tdA] using h
              have hN8 : Hid (New WB W8) := by show New _ _; rw [hW8]; exact hN7.out.set hTw.out _
              rw [← hW8]
              clear cz fz
              have cy := hb8.out.cell 1
              have cz := hb8.out.cell 4
              have fz := hb8.out.frozen 4
              simp [tdA] at cy cz
              obtain ⟨o4, hsl, ho4⟩ := sl_tail H (o + 3) m3 1 1 rfl (by omega)
              have ho4 := Lib.hid ho4
              obtain ⟨m4, hm4⟩ : ∃ m4, Hid (m3 - 1 = m4) := ⟨_, rfl⟩
              rw [hm4.out] at hsl
              have hg : Hid (HMem WB T P (W8.setCell ⟨T, 4, none⟩ (.slice (some ⟨H, o4, none⟩) m4 m4))) := by
                refine hfin.out true (o + 4) o4 m4 _ (by omega) ?_ (fun h => ?_) (hQ.out true _ (.inl ⟨rfl, _, hdc.out, rfl⟩)) ?_ (hN8.out.set hTw.out _) ?_
                · have h1 := hPn.out
                  have h2 := hon.out
                  have h3 := hm3e.out
                  have h4 := hm4.out
                  omega
                · have h4 := hm4.out
                  have := ho4.out (by omega)
                  omega
                · have h := hb8.out.put 4 (.slice (some ⟨H, o4, none⟩) m4 m4)
                  simpa [tdA] using h
                · rw [hW8]
                  exact (hw7.out _ _).2
              clear hW8 hz
              obtain ⟨v5, hv5⟩ : ∃ v5 : Value, Hid (v5 = .slice (some ⟨H, o + 3, none⟩) m3 m3) := ⟨_, rfl⟩
              rw [← hv5.out] at hsl ⊢
              go_wp2
              go_meet
              exact hg.out
            · have hdb : (q3 == [100, 111, 110, 101]) = false := by simpa using hd
              have hdH := Lib.hid hd
              clear hd
              go_upto_region 11 with fail
              obtain ⟨W8, hW8⟩ : ∃ W8, W8 = W7.setCell ⟨T, 1, none⟩ (.bool false) := ⟨_, rfl⟩
              have hb8 : Hid (Blk W8 T 26 (tdA code false x R2 nn c2 none 0 0)) := by
                show Blk _ _ _ _
                rw [hW8]
                have h := hb7.out.put 1 (.bool false)
                simpa [tdA] using h
              have hN8 : Hid (New WB W8) := by show New _ _; rw [hW8]; exact hN7.out.set hTw.out _
              rw [← hW8]
              clear cz fz
              have cy := hb8.out.cell 1
              have cz := hb8.out.cell 4
              have fz := hb8.out.frozen 4
              simp [tdA] at cy cz
              have hg : Hid (HMem WB T P (W8.setCell ⟨T, 4, none⟩ (.slice (some ⟨H, o + 3, none⟩) m3 m3))) := by
                refine hfin.out false (o + 3) (o + 3) m3 _ (by omega) ?_ (fun _ => rfl) (hQ.out false _ (.inr ⟨rfl, fun r e => ?_, rfl⟩)) ?_ (hN8.out.set hTw.out _) ?_
                · have h1 := hPn.out
                  have h2 := hon.out
                  have h3 := hm3e.out
                  omega
                · rw [hdc.out] at e
                  injection e with e _
                  exact hdH.out e
                · have h := hb8.out.put 4 (.slice (some ⟨H, o + 3, none⟩) m3 m3)
                  simpa [tdA] using h
                · rw [hW8]
                  exact (hw7.out _ _).2
              clear hW8 hz
              go_wp2
              go_meet
              exact hg.out
        · have h3i : ¬ (3 : Int) ≤ (m : Int) := by omega
          have hg : Hid (HMem WB T P wc) := by
            refine ⟨code, 0, false, Option.none, 0, 0, fun _ => 0, Option.none, 0, [], P.drop o, hbx.out, ⟨hcb.out.1, hcb.out.2, by decide, by decide, rdI_nil _ _, fun _ => by show 0 < 256; decide, Nat.zero_le _, rdS_nil _ _, Nat.le_refl _, by decide, fun _ => rfl, Nat.zero_le _, tab_new hTH.out (hNB.out.next hNx.out)⟩, hcp.out, .inr ⟨by rw [List.length_drop]; omega, rfl, rfl, rfl, rfl⟩, hNx.out, fun b off h => (by cases h)⟩
          clear h3 hon hPn
          go_wp2
          go_meet
          exact hg.out
      case rest =>
        obtain ⟨cod, size, dn, A, nn, c, f, B, e, l, Q, hb, hTo, hcq1, hcq, hNy, hA⟩ : HMem WB T P wc := hcut
        have hb := Lib.hid hb
        have hTo := Lib.hid hTo
        have hNy := Lib.hid hNy
        have hA := Lib.hid hA
        have hcd1 := Lib.hid hcq1
        have hcd2 := Lib.hid hcq
        obtain ⟨x, hx⟩ : ∃ x, Hid (x = if badT cod size l = true then [] else lineT cod size dn f nn l) := ⟨_, rfl⟩
        obtain ⟨cd, hcd⟩ : ∃ cd : Int, Hid (cd = if badT cod size l = true then 4 else 0) := ⟨_, rfl⟩
        obtain ⟨k, hk⟩ : ∃ k, Hid (k = l.length) := ⟨_, rfl⟩
        rw [← hk.out] at hb
        have hTl : Hid (Calls Tryd.prog 7 #[.agg #[.int .i64 cod, .bool dn, .int .i64 size, .slice A nn c, .slice B k e]] wc fun e w' => e = .returned (.tuple #[encStr x, .int .i64 cd]) ∧ New wc w') := by
          rw [hx.out, hcd.out, hk.out]
          exact Tell_any cod size dn A nn c f B e l wc hTo.out
        have x0 := hb.out.cell 0
        have x1 := hb.out.cell 1
        have x2 := hb.out.cell 2
        have x3 := hb.out.cell 3
        have x4 := hb.out.cell 4
        simp [tdA] at x0 x1 x2 x3 x4
        clear hcq1 hcq
        go_upto_region 15 with (go_at_call 7; refine hTl.out.mono ?_; rintro e w6 ⟨rfl, hn6⟩; have hn6 := Lib.hid hn6)
        clear x0 x1 x2 x3 x4
        have hN6 := Lib.hid (hNy.out.next hn6.out)
        have hr6 : Hid (Blk w6 w.heap.size 26 tdZ) := hbB.out.new hN6.out
        have hNw := Lib.hid (hNB.out.next hN6.out)
        have hv' := hv.out
        subst hv'
        have hbad : Hid (¬ (badT cod size l = false ∧ lineT cod size dn f nn l = line) → NoTold line) := fun h => no_told (by rw [← hP.out]; exact hcd1.out) hcd2.out h
        by_cases hc : cd = 0
        · subst hc
          have hbf : Hid (badT cod size l = false) := by
            show _ = _
            cases hq : badT cod size l with
            | false => rfl
            | true =>
              have := hcd.out
              rw [if_pos hq] at this
              cases this
          by_cases hxl : x = line
          · have hli : Hid (lineT cod size dn f nn l = line) := by
              show _ = _
              have h1 := hx.out
              rw [if_neg (by rw [hbf.out]; decide)] at h1
              rw [← h1]
              exact hxl
            have hxb : (x == line) = true := by simpa using hxl
            have hxc : (x != line) = false := by simpa using hxl
            have hb6 := Lib.hid (hb.out.new hn6.out)
            have y4 := hb6.out.cell 4
            simp [tdA] at y4
            have hcl : Hid (Calls Tryd.prog 39 #[.slice B k e] w6 fun e' w' => ∃ B' c', e' = .returned (.slice B' k c') ∧ w'.ownsRow w6.heap.size 9 1 (.slice B' k c') k (l.map encStr) ∧ New w6 w') := by
              rw [hk.out]
              exact clone_any B e l w6 (hTo.out.nam.new hn6.out)
            clear hxl
            go_upto_region 18 with (first
              | (go_at_call 39; refine hcl.out.mono ?_; rintro e w7 ⟨B', c', rfl, ho7, hn7⟩
                 have ho7 := Lib.hid ho7
                 have hn7 := Lib.hid hn7
                 have hb7 := Lib.hid (hb6.out.new hn7.out)
                 have cz := hb7.out.cell 4
                 have fz := hb7.out.frozen 4
                 simp [tdA] at cz))
            obtain ⟨W8, hW8⟩ : ∃ W8, W8 = w7.setCell ⟨T, 4, none⟩ (.slice B' k c') := ⟨_, rfl⟩
            have hb8 : Hid (Blk W8 T 26 (tdA cod dn size A nn c B' k c')) := by
              show Blk _ _ _ _
              rw [hW8]
              have h := hb7.out.put 4 (.slice B' k c')
              simpa [tdA] using h
            have hN8 : Hid (New WB W8) := by show New _ _; rw [hW8]; exact (hN6.out.next hn7.out).set hTw.out _
            have hr8 : Hid (Blk W8 w.heap.size 26 tdZ) := hbB.out.new hN8.out
            have hNw8 := Lib.hid (hNB.out.next hN8.out)
            have ho8 : Hid (W8.ownsRow w6.heap.size 9 1 (.slice B' k c') k (l.map encStr)) := by
              show World.ownsRow _ _ _ _ _ _ _
              rw [hW8]
              exact Alt.own (Alt.set (K := fun g => g = T) (Alt.refl w7) (.inl rfl) _) ho7.out fun g hg e => by
                subst e
                exact own_ne_blk ho7.out hb7.out (by decide) hg
            have hd8 : Hid (RdI .u8 W8 A nn (fun i => (f i : Nat))) := by
              show RdI _ _ _ _ _
              rw [hW8]
              exact set_rdI ((hTo.out.dat.new hn6.out).new hn7.out) (fun b off h => (hA.out b off h).1) _ _
            rw [← hW8]
            clear hW8 cz fz y4
            have hfin : Hid (HrR line w (.returned (.tuple #[.agg (tdA cod dn size A nn c B' k c'), .int .i64 0])) (W8.setRow w.heap.size (tdA cod dn size A nn c B' k c'))) := by
              refine ⟨cod, size, dn, A, nn, c, f, B', c', l, 0, by rw [← hk.out], hear_good hTo.out.lt hTo.out.c1 hTo.out.s1 hbf.out hli.out, ⟨row_rdI hd8.out (fun b off h => ?_) _, own_rdS (Alt.own (Alt.row (K := fun g => g = w.heap.size) (Alt.refl W8) (.inl rfl) _) ho8.out fun g hg e => by
                subst e
                exact own_ne_blk ho8.out hr8.out (by decide) hg) hTo.out.nam.1 hTo.out.nam.2.2⟩, hNw8.out.row (Nat.le_refl _) _⟩
              have h1 := (hA.out b off h).2
              have h2 := hbB.out.lt
              omega
            have x0 := hb8.out.cell 0
            have x1 := hb8.out.cell 1
            have x2 := hb8.out.cell 2
            have x3 := hb8.out.cell 3
            have x4 := hb8.out.cell 4
            simp [tdA] at x0 x1 x2 x3 x4
            go_wp2_with (refine wpList_store_row rfl 26 _ _ rfl w.heap.size (tdA cod dn size A nn c B' k c') rfl rfl 26 tdZ hr8.out (by kernel_rfl) rfl (td_one ..) ?_)
            exact bodyPost_ret (v := .tuple #[.agg (tdA cod dn size A nn c B' k c'), .int .i64 0]) (results_cell_slot Tryd.results14 _ _ w.heap.size 26 (tdA cod dn size A nn c B' k c') _ rfl (hr8.out.row (tdA cod dn size A nn c B' k c')) Tryd.underlying26 rfl (by kernel_rfl)) rfl hfin.out
          · have hxb : (x == line) = false := by simpa using hxl
            have hxc : (x != line) = true := by simpa using hxl
            have hnone : Hid (NoTold line) := hbad.out fun h => hxl (by have h1 := hx.out; rw [if_neg (by rw [h.1]; decide), h.2] at h1; exact h1)
            clear hxl
            go_wp2_with (refine wpList_store_row rfl 26 _ _ rfl w.heap.size tdZ rfl rfl 26 tdZ hr6.out (by kernel_rfl) rfl (td_one ..) ?_)
            exact bodyPost_ret (v := .tuple #[.agg tdZ, .int .i64 4]) (results_cell_slot Tryd.results14 _ _ w.heap.size 26 tdZ _ rfl (hr6.out.row tdZ) Tryd.underlying26 rfl (by kernel_rfl)) rfl (HrR.none hnone.out (hNw.out.row (Nat.le_refl _) _))
        · have hcb : (cd == 0) = false := by simpa using hc
          have hcc : (cd != 0) = true := by simpa using hc
          have hnone : Hid (NoTold line) := hbad.out fun h => hc (by rw [hcd.out, if_neg (by rw [h.1]; decide)])
          go_wp2_with (refine wpList_store_row rfl 26 _ _ rfl w.heap.size tdZ rfl rfl 26 tdZ hr6.out (by kernel_rfl) rfl (td_one ..) ?_)
          exact bodyPost_ret (v := .tuple #[.agg tdZ, .int .i64 4]) (results_cell_slot Tryd.results14 _ _ w.heap.size 26 tdZ _ rfl (hr6.out.row tdZ) Tryd.underlying26 rfl (by kernel_rfl)) rfl (HrR.none hnone.out (hNw.out.row (Nat.le_refl _) _))
end Go.Proofs.YtaommipcdcncnaaDoor.desk
