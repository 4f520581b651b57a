/-
  Contract of the reference's unhexa.
-/
import Derived.Test.YtaommipcdcncnaaDoorDeskUnhex
import Derived.Test.YtaommipcdcncnaaDoorDeskPieces
import Derived.Test.YtaommipcdcncnaaDoorDeskNames
namespace Go.Proofs.YtaommipcdcncnaaDoor.desk
open Go.ChangeShapes Go.WideShapes Go.ChangeAt Go.RowKit Go.Proofs.YtaommipcdcncnaaDoor.kit Go.Deep
set_option linter.unusedVariables false
set_option maxRecDepth 100000
theorem str_two (s : Tx) (w : World) (i : Nat) (h : i + 1 < s.length) : (Instr.slice 9 (encStr s) (some (.int .i64 (i : Nat))) (some (.int .i64 ((i : Int) + 2))) none).run Tryd.prog w = .ok (encStr [s.getD i 0, s.getD (i + 1) 0]) w := by
  have h1 := run_slice_string (P := Tryd.prog) (w := w) 9 ⟨s.toArray⟩ .i64 .i64 (i : Nat) ((i : Int) + 2) Tryd.underlying9 (by omega) (by omega) (by show (i : Int) + 2 ≤ (s.length : Nat); omega)
  refine h1.trans ?_
  congr 1
  show Value.string _ = Value.string _
  congr 1
  apply ByteArray.ext
  apply Array.toList_inj.1
  rw [Lib.extract_data, show ((i : Int)).toNat = i by omega, show ((i : Int) + 2).toNat = i + 2 by omega, Nat.add_sub_cancel_left]
  show (s.drop i).take 2 = [s.getD i 0, s.getD (i + 1) 0]
  rw [List.drop_eq_getElem_cons (show i < s.length by omega), List.drop_eq_getElem_cons h]
  show [s[i], s[i + 1]] = _
  rw [List.getD, List.getD, List.getElem?_eq_getElem h, List.getElem?_eq_getElem (show i < s.length by omega)]
  rfl
/-- the value of the first k letters of a pair -/
def pv (a b k : Nat) : Nat := if k = 0 then 0 else if k = 1 then a else 16 * a + b
theorem pv_more (a b k : Nat) (h : k < 2) : pv a b (k + 1) = 16 * pv a b k + if k = 0 then a else b := by
  match k, h with
  | 0, _ => simp [pv]
  | 1, _ => simp [pv]
theorem pv_lt {a b k : Nat} (ha : a < 16) (h : k < 2) : pv a b k < 16 := by
  match k, h with
  | 0, _ => simp [pv]
  | 1, _ => simpa [pv] using ha
set_option maxHeartbeats 1000000 in
theorem unhexa_any (s : Tx) (hs : s.length ≤ 1048576) (w : World) : Calls Tryd.prog 37 #[encStr s] w (HexR s w) := by
  by_cases hd : s = [45]
  · subst hd
    have hP := Lib.hid (HexP.dash (fun _ => 0) (fun _ => by decide))
    go_enter Tryd.func37, Tryd.ntmps37
    go_wp2
    exact bodyPost_ret (v := .tuple #[.slice none 0 0, .bool true]) (by simp [results, Tryd.results37, go_sem]) rfl (HexR.of hP.out (own_nil _ _ _) (New.refl _))
  have hdb : (s == [45]) = false := by simpa using hd
  obtain ⟨n, hn⟩ : ∃ n, Hid (n = s.length) := ⟨_, rfl⟩
  obtain ⟨v, hv⟩ : ∃ v, Hid (v = encStr s) := ⟨_, rfl⟩
  have hlen : Hid (∀ w' ty, (Builtin.len_ #[9] ty #[v]).run Tryd.prog w' = .ok (.int .i64 (n : Nat)) w') := fun w' ty => by rw [hv.out, hn.out]; exact str_len _ w' ty
  have htwo : Hid (∀ w' i, i + 1 < n → (Instr.slice 9 v (some (.int .i64 (i : Nat))) (some (.int .i64 ((i : Int) + 2))) none).run Tryd.prog w' = .ok (encStr [s.getD i 0, s.getD (i + 1) 0]) w') := fun w' i hi => by rw [hv.out]; exact str_two s w' i (by rw [← hn.out]; exact hi)
  have hnm : n ≤ 1048576 := by rw [hn.out]; exact hs
  have hdH := Lib.hid hd
  clear hd
  obtain ⟨i1, hi1, hz0, hz1, hz2⟩ := info_parts infoByte
  go_enter Tryd.func37, Tryd.ntmps37
  go_upto_region 5 with fail
  rw [← hv.out]
  clear hdb
  go_loopw [5, 4] (fun x ov wr => ∃ (j : Nat) (f : Nat → Nat), x = .int .i64 ((2 * j : Nat)) ∧ 2 * j ≤ n ∧ Hid (∀ i, f i < 256) ∧ Hid (hexN f j = s.take (2 * j)) ∧ Hid (wr.ownsRow w.heap.size 5 1 ov j (numL .u8 f j)) ∧ Hid (New w wr)) (fun x _ _ => n - (intOf x).toNat)
  case atStart => exact ⟨0, fun _ => 0, rfl, Nat.zero_le _, Lib.hid (fun _ => by show 0 < 256; decide), Lib.hid rfl, Lib.hid (own_nil _ _ _), Lib.hid (New.refl _)⟩
  case round =>
    obtain ⟨j, f, rfl, hj, hf, hx, hO, hNw⟩ := hrel
    have hl1 := hlen.out wr
    obtain ⟨p, hp⟩ : ∃ p, Hid (p = 2 * j) := ⟨_, rfl⟩
    rw [← hp.out] at hj ⊢
    by_cases hlt : p + 1 < n
    · have hil : (p : Int) + 1 < (n : Int) := by omega
      have htw := htwo.out wr p hlt
      obtain ⟨c1, hc1⟩ : ∃ c, Hid (c = s.getD p 0) := ⟨_, rfl⟩
      obtain ⟨c2, hc2⟩ : ∃ c, Hid (c = s.getD (p + 1) 0) := ⟨_, rfl⟩
      rw [← hc1.out, ← hc2.out] at htw
      obtain ⟨cp, w1, hcv, hn1, hcells⟩ := conv_any [c1, c2] wr
      obtain ⟨u, hu⟩ : ∃ u, Hid (u = encStr [c1, c2]) := ⟨_, rfl⟩
      rw [← hu.out] at htw hcv
      have hO1 := Lib.hid (own_new hO.out hn1)
      have hN1 := Lib.hid (hNw.out.next hn1)
      have y0 : w1.cell? ⟨wr.heap.size, 0, none⟩ = some (.int .u8 (c1.toNat : Nat)) := hcells 0 (by simp)
      have y1 : w1.cell? ⟨wr.heap.size, 1, none⟩ = some (.int .u8 (c2.toNat : Nat)) := hcells 1 (by simp)
      have hcv' : (convert 9 23 u).run Tryd.prog wr = .ok (.slice (some ⟨wr.heap.size, 0, none⟩) 2 cp) w1 := hcv
      clear hcells hn1 hcv
      go_upto_region 8 with fail
      go_wp2_with fail
      go_loopw [25, 6] (fun kv xv wq => ∃ k : Nat, kv = .int .i64 (k : Nat) ∧ k ≤ 2 ∧ xv = .int .i64 (pv (hdV c1) (hdV c2) k : Nat) ∧ Hid ((0 < k → hdB c1 = true) ∧ (1 < k → hdB c2 = true)) ∧ w1 = wq) (fun kv _ _ => 2 - (intOf kv).toNat)
      case atStart => exact ⟨0, rfl, by decide, rfl, Lib.hid ⟨fun h => absurd h (by decide), fun h => absurd h (by decide)⟩, rfl⟩
      case round =>
        obtain ⟨k, rfl, hk, rfl, hok, rfl⟩ := hrel
        by_cases hk2 : k < 2
        · have hki : (k : Int) < 2 := by omega
          obtain ⟨cq, hcq⟩ : ∃ cq, Hid (cq = if k = 0 then c1 else c2) := ⟨_, rfl⟩
          obtain ⟨q, hq⟩ : ∃ q, Hid (q = cq.toNat) := ⟨_, rfl⟩
          have yq : w1.cell? ⟨wr.heap.size, k, none⟩ = some (.int .u8 (q : Nat)) := by
            rw [hq.out, hcq.out]
            match k, hk2 with
            | 0, _ => exact y0
            | 1, _ => exact y1
          have hpm := Lib.hid (pv_more (hdV c1) (hdV c2) k hk2)
          have hqi := Lib.hid (hd_iff cq)
          rw [← hq.out] at hqi
          by_cases hg : (48 ≤ q ∧ q ≤ 57) ∨ (97 ≤ q ∧ q ≤ 102)
          · have hcqh : hdB cq = true := hqi.out.2 hg
            have hyes : Hid ((0 < k + 1 → hdB c1 = true) ∧ (1 < k + 1 → hdB c2 = true)) := by
              have h := hcq.out
              match k, hk2 with
              | 0, _ => exact ⟨fun _ => by rw [if_pos rfl] at h; rw [← h]; exact hcqh, fun h => absurd h (by decide)⟩
              | 1, _ => exact ⟨fun _ => hok.out.1 (by decide), fun _ => by rw [if_neg (by decide)] at h; rw [← h]; exact hcqh⟩
            have hpl : pv (hdV c1) (hdV c2) k < 16 := by
              match k, hk2, hok with
              | 0, _, _ => simp [pv]
              | 1, _, hok =>
                have := hd_lt (hok.out.1 (by decide))
                simpa [pv] using this
            have hcqv : Hid ((if k = 0 then hdV c1 else hdV c2) = hdV cq) := by show _ = _; rw [hcq.out]; split <;> rfl
            have hvq : Hid (hdV cq = if q ≤ 57 then q - 48 else q - 87) := by show _ = _; rw [hq.out]; rfl
            obtain ⟨P, hP⟩ : ∃ P, Hid (P = pv (hdV c1) (hdV c2) k) := ⟨_, rfl⟩
            rw [← hP.out] at hpm hpl ⊢
            clear y0 y1
            rcases hg with ⟨hg1, hg2⟩ | ⟨hg1, hg2⟩
            · have hvq2 := hvq.out
              rw [if_pos hg2] at hvq2
              replace hvq2 := Lib.hid hvq2
              have g1 : (48 : Int) ≤ (q : Int) := by omega
              have g2 : (q : Int) ≤ 57 := by omega
              have g3 : IntKind.u8.wrap ((q : Int) - 48) = (q : Int) - 48 := u8_in (by omega) (by omega)
              have g4 : ((q : Int) - 48) % 256 = (q : Int) - 48 := by omega
              go_wp2
              go_roundw
              case rel =>
                refine ⟨k + 1, by go_num, by omega, ?_, hyes, trivial⟩
                rw [hpm.out, hcqv.out, hvq2.out]
                congr 1
                omega
              case measure => simp [intOf]; omega
            · have hvq2 := hvq.out
              rw [if_neg (by omega)] at hvq2
              replace hvq2 := Lib.hid hvq2
              have g1 : (97 : Int) ≤ (q : Int) := by omega
              have g2 : (q : Int) ≤ 102 := by omega
              have g3 : IntKind.u8.wrap ((q : Int) - 87) = (q : Int) - 87 := u8_in (by omega) (by omega)
              have g4 : ((q : Int) - 87) % 256 = (q : Int) - 87 := by omega
              have g5 : ¬ (q : Int) ≤ 57 := by omega
              have g6 : (48 : Int) ≤ (q : Int) := by omega
              go_wp2
              go_roundw
              case rel =>
                refine ⟨k + 1, by go_num, by omega, ?_, hyes, trivial⟩
                rw [hpm.out, hcqv.out, hvq2.out]
                congr 1
                omega
              case measure => simp [intOf]; omega
          · have hbad : hdB cq = false := by
              cases h : hdB cq with
              | false => rfl
              | true => exact absurd (hqi.out.1 h) hg
            have hP : Hid (HexP s (fun _ => 0) 0 false) := by
              have h := hcq.out
              match k, hk2 with
              | 0, _ =>
                rw [if_pos rfl] at h
                exact HexP.digit (fun _ => by decide) (Nat.zero_le _) hdH.out (i := p) (by rw [← hn.out]; omega) (by rw [← hc1.out, ← h]; exact hbad)
              | 1, _ =>
                rw [if_neg (by decide)] at h
                exact HexP.digit (fun _ => by decide) (Nat.zero_le _) hdH.out (i := p + 1) (by rw [← hn.out]; exact hlt) (by rw [← hc2.out, ← h]; exact hbad)
            clear y0 y1
            by_cases a1 : q < 48
            · have a1i : ¬ (48 : Int) ≤ (q : Int) := by omega
              have a2i : ¬ (97 : Int) ≤ (q : Int) := by omega
              go_wp2
              exact bodyPost_ret (v := .tuple #[.slice none 0 0, .bool false]) (by simp [results, Tryd.results37, go_sem]) rfl (HexR.of hP.out (own_nil _ _ _) hN1.out)
            have a1i : (48 : Int) ≤ (q : Int) := by omega
            have a3i : ¬ (q : Int) ≤ 57 := by omega
            by_cases a2 : q < 97
            · have a2i : ¬ (97 : Int) ≤ (q : Int) := by omega
              go_wp2
              exact bodyPost_ret (v := .tuple #[.slice none 0 0, .bool false]) (by simp [results, Tryd.results37, go_sem]) rfl (HexR.of hP.out (own_nil _ _ _) hN1.out)
            have a2i : (97 : Int) ≤ (q : Int) := by omega
            have a4i : ¬ (q : Int) ≤ 102 := by omega
            go_wp2
            exact bodyPost_ret (v := .tuple #[.slice none 0 0, .bool false]) (by simp [results, Tryd.results37, go_sem]) rfl (HexR.of hP.out (own_nil _ _ _) hN1.out)
        · have hk3 : k = 2 := by omega
          subst hk3
          have hki : ¬ ((2 : Nat) : Int) < 2 := by omega
          have h1 := hok.out.1 (by decide)
          have h2 := hok.out.2 (by decide)
          obtain ⟨y, hy⟩ : ∃ y, Hid (y = pv (hdV c1) (hdV c2) 2) := ⟨_, rfl⟩
          rw [← hy.out]
          have hyv : Hid (y = 16 * hdV c1 + hdV c2) := hy
          have hyb : y < 256 := by
            have := hd_lt h1
            have := hd_lt h2
            rw [hyv.out]
            omega
          have hym : (y : Int) % 256 = (y : Int) := by omega
          have hyw : IntKind.u8.wrap (y : Int) = (y : Int) := u8_in (by omega) (by omega)
          have hjm : j ≤ 524288 := by have := hp.out; omega
          clear y0 y1 hk hk2
          go_wp2_with (first
          | (at_builtin; refine wpList_append_lies _ rfl (.tmp 54) (.tmp 57) 23 rfl w.heap.size 5 i1 _ 1 1 Tryd.underlying23 hi1 hz0 hz1 hz2 rfl (by decide) u4 j (numL .u8 f j) rfl (hO1.out.alloc _) ⟨w1.heap.size, 0, none⟩ 1 1 [.int .u8 (y : Nat)] rfl rfl (World.news_of_block (cs := #[.int .u8 _]) (t := 5) (fr := (0, 0)) (heap_alloc_new w1 _)) (by simp [Value.oneCell']) (by omega) (by unfold maxLen; omega) (by omega) (by have := hN1.out.size; simp; omega) _ rfl ?_
             intro g6 c6' w6 hown6 hgr6 hat6 hlt6
             have hown6 := Lib.hid hown6
             have hN6 : Hid (New w w6) := (hN1.out.alloc _).grown hgr6 fun r e => (hO1.out.lt r e).1
             clear hgr6 hat6 hlt6))
          go_roundw
          case rel =>
            refine ⟨j + 1, putF f j y, by rw [hp.out]; congr 1, by have := hp.out; omega, Lib.hid (fun i => ?_), ?_, ?_, hN6⟩
            · show putF f j y i < 256
              unfold putF
              split
              · exact hyb
              · exact hf.out i
            · show hexN _ _ = _
              have hpl2 := hlt
              rw [hp.out] at hpl2 hc1 hc2
              refine hex_pair (f := f) (by rw [← hn.out]; exact hpl2) hx.out (by rw [← hc1.out]; exact h1) (by rw [← hc2.out]; exact h2) _ (fun i hi => by unfold putF; rw [if_neg (by omega)]) ?_
              unfold putF
              rw [if_pos rfl, hyv.out, hc1.out, hc2.out]
            · show World.ownsRow _ _ _ _ _ _ _
              rw [← numL_put]
              exact hown6.out
          case measure => simp [intOf]; omega
    · have hil : ¬ (p : Int) + 1 < (n : Int) := by omega
      by_cases h0 : n = 0
      · have hP : Hid (HexP s f j false) := HexP.odd hf.out (by rw [← hn.out]; rw [hp.out] at hj; omega) hdH.out (.inl (by rw [← hn.out]; exact h0))
        subst h0
        go_wp2
        exact bodyPost_ret (v := .tuple #[u4, .bool false]) (by simp [results, Tryd.results37, go_sem]) rfl (HexR.of hP.out hO.out hNw.out)
      have h0i : (0 : Int) < (n : Int) := by omega
      by_cases hpar : n % 2 = 1
      · have hP : Hid (HexP s f j false) := HexP.odd hf.out (by rw [← hn.out]; rw [hp.out] at hj; omega) hdH.out (.inr (by rw [← hn.out]; exact hpar))
        have hrm : ((n : Int) % 2 == 0) = false := by
          simp
          omega
        go_wp2
        exact bodyPost_ret (v := .tuple #[u4, .bool false]) (by simp [results, Tryd.results37, go_sem]) rfl (HexR.of hP.out hO.out hNw.out)
      · have hpn : Hid (2 * j = n) := by show _ = _; have := hp.out; omega
        have hP : Hid (HexP s f j true) := HexP.good hf.out (by have := hpn.out; omega) (by rw [hx.out, List.take_of_length_le (by rw [← hn.out, hpn.out]; exact Nat.le_refl _)])
        have hrm : ((n : Int) % 2 == 0) = true := by
          simp
          omega
        go_wp2
        exact bodyPost_ret (v := .tuple #[u4, .bool true]) (by simp [results, Tryd.results37, go_sem]) rfl (HexR.of hP.out hO.out hNw.out)
end Go.Proofs.YtaommipcdcncnaaDoor.desk
