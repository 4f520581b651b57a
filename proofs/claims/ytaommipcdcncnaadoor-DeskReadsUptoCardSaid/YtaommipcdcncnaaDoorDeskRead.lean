/-
  Contract of the program's Read.
-/
import Derived.Test.YtaommipcdcncnaaDoorDeskReadP
namespace Go.Proofs.YtaommipcdcncnaaDoor.desk
open Go.ChangeShapes Go.WideShapes Go.ChangeAt Go.RowKit Go.Proofs.YtaommipcdcncnaaDoor.kit Go.Deep
set_option linter.unusedVariables false
set_option maxRecDepth 100000
set_option maxHeartbeats 2000000 in
theorem Read_any (line : Tx) (hl : line.length ≤ 1048576) (w : World) (hM : MaxIs w) (hE : ErrsAre w) (hW : WordsIs w) (hT : Lib.TabIs Tryd.prog w "internal/strconv.uint64pow10" .u64 Lib.pow10Tab) :
    Calls Tryd.prog 11 #[encStr line] w (RdR line w) := by
  obtain ⟨P, hP⟩ : ∃ P, Hid (P = cutT line) := ⟨_, rfl⟩
  obtain ⟨n, hn⟩ : ∃ n, Hid (n = P.length) := ⟨_, rfl⟩
  obtain ⟨p0, pt, hcut, hcx⟩ := cut_join line
  clear hcx
  have hn0 : 0 < n := by rw [hn.out, hP.out, hcut]; simp
  have hnm : n ≤ 1048577 := by
    rw [hn.out, hP.out]
    have := cut_len_le line
    omega
  have hp0 : Hid (P.getD 0 [] = p0) := by show _ = _; rw [hP.out, hcut]; rfl
  have hPl : Hid (∀ i, (P.getD i []).length ≤ 1048576) := by
    intro i
    by_cases hi : i < P.length
    · have : P.getD i [] ∈ cutT line := by rw [← hP.out]; exact getD_mem hi
      exact Nat.le_trans (cut_mem_len line _ this) hl
    · rw [List.getD, List.getElem?_eq_none (by omega)]
      exact Nat.zero_le _
  have hS : Hid (∀ w', New w w' → Calls Tryd.prog 28 #[encStr line, .string ⟨#[32]⟩] w' fun e w'' => e = .returned (.slice (some ⟨w'.heap.size, 0, none⟩) n n) ∧ Blk w'' w'.heap.size 9 (P.map encStr).toArray ∧ New w' w'') := fun w' hn' => by rw [hn.out, hP.out]; exact split_any line hl w' (hM.new hn')
  have hWH := Lib.hid hW
  have hEH := Lib.hid hE
  have hTH := Lib.hid hT
  obtain ⟨W1, hW1⟩ : ∃ W1, W1 = w.alloc (.cells #[.int .i64 0, .string ⟨#[]⟩, .string ⟨#[]⟩, .int .i64 0, .int .i64 0, .int .i64 0, .int .i64 0, .slice none 0 0] 31) := ⟨_, rfl⟩
  have hN1 : Hid (New w W1) := by show New _ _; rw [hW1]; exact (New.refl w).alloc _
  have hb1 : Hid (Blk W1 w.heap.size 31 (cuA 0 zC)) := by show Blk _ _ _ _; rw [hW1]; exact Blk.fresh _ _ _
  obtain ⟨v, hv⟩ : ∃ v, Hid (v = encStr line) := ⟨_, rfl⟩
  rw [← hv.out] at hS ⊢
  clear hM hE hW hT hcut
  go_enter Tryd.func11, Tryd.ntmps11
  go_upto_region 1 with fail
  rw [← hW1]
  clear hW1
  obtain ⟨H, hH⟩ : ∃ H, Hid (H = W1.heap.size) := ⟨_, rfl⟩
  go_upto_region 2 with (go_at_call 28; refine (hS.out _ hN1.out).mono ?_; rintro e w2 ⟨rfl, hb2, hn2⟩; have hb2 := Lib.hid hb2; have hn2 := Lib.hid hn2)
  rw [← hH.out]
  rw [← hH.out] at hb2
  obtain ⟨W3, hW3⟩ : ∃ W3, W3 = w2.alloc (.cells #[.slice (some ⟨H, 0, none⟩) n n] 24) := ⟨_, rfl⟩
  obtain ⟨G, hG⟩ : ∃ G, Hid (G = w2.heap.size) := ⟨_, rfl⟩
  rw [← hW3, ← hG.out]
  have hN3 : Hid (New W1 W3) := by show New _ _; rw [hW3]; exact hn2.out.alloc _
  have hbG : Hid (Blk W3 G 24 #[.slice (some ⟨H, 0, none⟩) n n]) := by show Blk _ _ _ _; rw [hW3, hG.out]; exact Blk.fresh _ _ _
  have hbH : Hid (Blk W3 H 9 (P.map encStr).toArray) := by show Blk _ _ _ _; rw [hW3]; exact hb2.out.alloc _
  have hHc : Hid (∀ i, i < n → W3.cell? ⟨H, i, none⟩ = some (encStr (P.getD i []))) := fun i hi => by
    rw [hbH.out.cell]
    have hi2 : i < P.length := by rw [← hn.out]; exact hi
    simp [List.getD, hi2]
  have hb3 := Lib.hid (hb1.out.new hN3.out)
  clear hW3 hb2
  have hF : Hid (Calls Tryd.prog 29 #[.slice (some ⟨0, 0, none⟩) 19 19, .func (.func 30) #[] #[.pointer (some ⟨G, 0, none⟩)]] W3 fun e w' => ∃ p, e = .returned (.int .i64 p) ∧ FindP p0 p ∧ New W3 w') :=
    find_any p0 G H n hn0 W3 (words_new hWH.out (hN1.out.next hN3.out)) (by rw [hbG.out.cell]; rfl) (by rw [hHc.out 0 hn0, hp0.out])
  go_upto_region 3 with (go_at_call 29; refine hF.out.mono ?_; rintro e w4 ⟨p, rfl, hfp, hn4⟩; have hfp := Lib.hid hfp; have hn4 := Lib.hid hn4)
  have hN4 := Lib.hid ((hN1.out.next hN3.out).next hn4.out)
  have hb4 := Lib.hid (hb3.out.new hn4.out)
  have g0 := (hbG.out.new hn4.out).cell 0
  simp at g0
  rcases hfp.out with ⟨rfl, hno⟩ | ⟨i0, hi0, rfl, hwi⟩
  · have hnone : Hid (∀ i, i < 19 → NoneAt line i) := fun i hi => none_word hi (by rw [← hP.out, hp0.out]; exact fun e => hno i hi e.symm)
    clear hno hbG hbH hHc hF
    go_quiet (fail)
    rename_i nq
    have hb5 : Hid (Blk (w4.drewN nq) w.heap.size 31 (cuA 0 zC)) := hb4.out
    have hN5 := Lib.hid (hN4.out.drewN nq)
    go_wp2_with (refine wpList_store_row rfl 31 _ _ rfl w.heap.size (cuA 0 zC) rfl rfl 31 (cuA 0 zC) hb5.out (by kernel_rfl) rfl (cu_one 0 zC) ?_)
    exact bodyPost_ret (v := .tuple #[.agg (cuA 0 zC), .int .i64 4]) (results_cell_slot Tryd.results11 _ _ w.heap.size 31 (cuA 0 zC) _ rfl (hb5.out.row (cuA 0 zC)) Tryd.underlying31 rfl (by kernel_rfl)) rfl (RdR.none hnone.out (hN5.out.row (Nat.le_refl _) _))
  · have hwi := Lib.hid hwi
    obtain ⟨wd, hwd⟩ : ∃ wd, Hid (wd = (wordK i0).1) := ⟨_, rfl⟩
    obtain ⟨sg, hsg⟩ : ∃ sg, Hid (sg = (wordK i0).2) := ⟨_, rfl⟩
    obtain ⟨m, hm⟩ : ∃ m, Hid (m = sg.length) := ⟨_, rfl⟩
    obtain ⟨sv, hsv⟩ : ∃ sv, Hid (sv = encStr sg) := ⟨_, rfl⟩
    have hslen : ∀ w' ty, (Builtin.len_ #[9] ty #[sv]).run Tryd.prog w' = .ok (.int .i64 (m : Nat)) w' := fun w' ty => by rw [hsv.out, hm.out]; exact str_len _ w' ty
    have hi0i : (i0 : Int) < 19 := by omega
    have y1 := ((words_new hWH.out hN4.out) i0 hi0).2
    rw [← hsg.out, ← hsv.out] at y1
    by_cases hlen : n = m + 1
    · have hne : ((n : Int) != (m : Int) + 1) = false := by simp; omega
      have hm4 : m ≤ 4 := by rw [hm.out, hsg.out]; exact (signs_ok i0 hi0).1
      have hmw : IntKind.i64.wrap ((m : Int) + 1) = (m : Int) + 1 := IntWalk.i64_in _ (by omega)
      have hlenH := Lib.hid hlen
      clear hlen
      go_quiet (fail)
      rename_i nq
      obtain ⟨WB, hWB⟩ : ∃ WB, WB = w4.drewN nq := ⟨_, rfl⟩
      have hNB : Hid (New w WB) := by show New _ _; rw [hWB]; exact hN4.out.drewN nq
      have hN3B : Hid (New W3 WB) := by show New _ _; rw [hWB]; exact hn4.out.drewN nq
      have hbB : Hid (Blk WB w.heap.size 31 (cuA 0 zC)) := by show Blk _ _ _ _; rw [hWB]; exact hb4.out
      have yB : WB.cell? ⟨0, i0 * 2 + 1, none⟩ = some sv := by rw [hWB]; exact y1
      rw [← hWB]
      clear hWB y1 g0
      obtain ⟨k, hk⟩ : ∃ k : Int, Hid (k = (i0 : Int) + 1) := ⟨_, rfl⟩
      have hkw : IntKind.i64.wrap (1 + (i0 : Int)) = k := by
        rw [hk.out, show (1 : Int) + (i0 : Int) = (i0 : Int) + 1 by omega]
        exact IntWalk.i64_in _ (by omega)
      obtain ⟨W6, hW6⟩ : ∃ W6, W6 = WB.alloc (.cells #[.int .i64 k, .string ⟨#[]⟩, .string ⟨#[]⟩, .int .i64 0, .int .i64 0, .int .i64 0, .int .i64 0, .slice none 0 0] 31) := ⟨_, rfl⟩
      have hN6 : Hid (New WB W6) := by show New _ _; rw [hW6]; exact (New.refl WB).alloc _
      have hb6 : Hid (Blk W6 WB.heap.size 31 (cuA k zC)) := by show Blk _ _ _ _; rw [hW6]; exact Blk.fresh _ _ _
      obtain ⟨C, hC⟩ : ∃ C, Hid (C = WB.heap.size) := ⟨_, rfl⟩
      go_upto_region 7 with fail
      rw [← hW6, ← hC.out]
      rw [← hC.out] at hb6
      have y6 := (hN6.out.cell (lt_of_cell yB)).trans yB
      clear hW6 yB hslen
      obtain rfl := hsv.out
      obtain ⟨W7, hW7⟩ : ∃ W7, W7 = W6.iter ⟨sg.toArray⟩ 0 := ⟨_, rfl⟩
      obtain ⟨I, hI⟩ : ∃ I, Hid (I = W6.heap.size) := ⟨_, rfl⟩
      have hI7 : Hid (W7.heap[I]? = some (.stringIter ⟨sg.toArray⟩ 0)) := by
        show _ = _
        rw [hW7, hI.out]
        exact World.iter_heap W6 ⟨sg.toArray⟩ 0
      have hN7 : Hid (New W6 W7) := by show New _ _; rw [hW7]; exact (New.refl W6).alloc _
      have hb7 := Lib.hid (hb6.out.new hN7.out)
      have hNB7 := Lib.hid (hN6.out.next hN7.out)
      have hNw : Hid (∀ w', New WB w' → New w w') := fun w' h => hNB.out.next h
      have hso := Lib.hid (signs_ok i0 hi0)
      rw [← hsg.out] at hso
      have hnum : Hid (∀ (q : Tx), q.length ≤ 1048576 → ∀ w', New WB w' → Calls Tryd.prog 31 #[encStr q] w' fun e w'' => ∃ n b, e = .returned (.tuple #[.int .i64 n, .bool b]) ∧ NumP q n b ∧ New w' w'') := fun q hq w' hn' =>
        number_any q hq w' (hEH.out.new (hNB.out.next hn')) (tab_new hTH.out (hNB.out.next hn'))
      have hHB : Hid (∀ w', New WB w' → w'.cell? ⟨G, 0, none⟩ = some (.slice (some ⟨H, 0, none⟩) n n) ∧ ∀ i, i < n → w'.cell? ⟨H, i, none⟩ = some (encStr (P.getD i []))) := fun w' hn' => by
        have hx := hN3B.out.next hn'
        exact ⟨by rw [(hbG.out.new hx).cell]; rfl, fun i hi => (hx.cell (lt_of_cell (hHc.out i hi))).trans (hHc.out i hi)⟩
      go_upto_region 8 with fail
      rw [← hW7, ← hI.out]
      clear hW7 hkw hi0i hne hmw hF y6
      go_loopw [7] (fun x wr => ∃ (j : Nat) (cur : Cu) (f : Nat → Nat) (ok : Bool), x = .bool ok ∧ j ≤ m ∧ Hid (wr.heap[I]? = some (.stringIter ⟨sg.toArray⟩ j)) ∧ Hid (Blk wr C 31 (cuA k cur)) ∧ Hid (wr.ownsRow WB.heap.size 5 1 (.slice cur.R cur.dn cur.dc) cur.dn (numL .u8 f cur.dn)) ∧ Hid (RInv f i0 P cur j ok ∧ cur.dn ≤ 1048576) ∧ Hid (New WB wr)) (fun _ wr => m - wr.iterPos I)
      case atStart => exact ⟨0, zC, fun _ => 0, true, rfl, Nat.zero_le _, hI7, hb7, Lib.hid (own_nil _ _ _), Lib.hid ⟨RInv.start _ (fun _ => by show 0 < 256; decide) i0 P, Nat.zero_le _⟩, hNB7⟩
      case round =>
        obtain ⟨j, cur, f, ok, rfl, hj, hIt, hB, hO, hR, hN⟩ := hrel
        have hmu : Hid (wr.iterPos I = j) := by show _ = _; simp [World.iterPos, hIt.out]
        by_cases hlt : j < m
        · have hls : j < sg.length := by rw [← hm.out]; exact hlt
          obtain ⟨s, hs⟩ : ∃ s, Hid (s = sg[j]) := ⟨sg[j], rfl⟩
          have hall := hso.out.2 s (by rw [hs.out]; exact List.getElem_mem hls)
          have hnext : ∀ ty, (Instr.next (.pointer (some ⟨I, 0, none⟩)) true ty).run Tryd.prog wr = .ok (.tuple #[.bool true, .int .i64 j, .int .i32 (s.toNat : Nat)]) (wr.iterAt I ⟨sg.toArray⟩ (j + 1)) := fun ty => by
            have h := Lib.run_next_ascii_at (P := Tryd.prog) wr I ⟨sg.toArray⟩ j ty hIt.out (by show j < sg.toArray.size; simpa using hls) (by
              show (sg[j]).toNat < 128
              rw [← hs.out]
              rcases hall with h | h | h | h | h | h | h <;> rw [h] <;> decide)
            rw [h, hs.out]
            rfl
          have hls2 : Hid (j < (wordK i0).2.length) := by show _ < _; rw [← hsg.out]; exact hls
          have hs2 : Hid (s = (wordK i0).2[j]'hls2.out) := by
            show _ = _
            rw [hs.out]
            simp only [hsg.out]
          have hI5 := Lib.hid (Lib.iterAt_heap wr I ⟨sg.toArray⟩ j (j + 1) hIt.out)
          have ha5 : Alt (fun g => g = I) wr (wr.iterAt I ⟨sg.toArray⟩ (j + 1)) := alt_iterAt hIt.out
          have hPI : C ≠ I := fun e => by
            have h1 := hB.out
            unfold Blk at h1
            rw [e, hIt.out] at h1
            cases h1
          have hB5 := Lib.hid (ha5.blk hB.out hPI)
          have hO5 := Lib.hid (Alt.own ha5 hO.out fun g hg e => by
            subst e
            rcases hO.out.2 with ⟨h0, _⟩ | ⟨g', cap, cur, h0, _, hg0, _⟩
            · rw [h0] at hg; cases hg
            · rw [h0] at hg
              have : g' = g := by simpa [Value.ownBlock] using hg
              subst this
              rw [hIt.out] at hg0
              cases hg0)
          have hIw : WB.heap.size ≤ I := by
            rw [hI.out]
            exact hN6.out.size
          have hN5 : Hid (New WB (wr.iterAt I ⟨sg.toArray⟩ (j + 1))) := hN.out.trans (ha5.below hN.out.size fun g hg => by omega)
          generalize wr.iterAt I ⟨sg.toArray⟩ (j + 1) = w5 at hnext hI5 ha5 hB5 hO5 hN5
          clear ha5 hO hB hIt hN
          have hji : (j : Int) + 1 < (n : Int) := by rw [hlenH.out]; omega
          have hjw : IntKind.i64.wrap ((j : Int) + 1) = (j : Int) + 1 := IntWalk.i64_in _ (by omega)
          obtain ⟨g1, g2a⟩ := hHB.out w5 hN5.out
          have g2 := g2a (j + 1) (by rw [hlenH.out]; omega)
          clear g2a
          obtain ⟨q, hq⟩ : ∃ q, Hid (q = P.getD (j + 1) []) := ⟨_, rfl⟩
          rw [← hq.out] at g2
          have hql : Hid (q.length ≤ 1048576) := by show _ ≤ _; rw [hq.out]; exact hPl.out _
          have hCw : Hid (WB.heap.size ≤ C) := by show _ ≤ _; rw [hC.out]; exact Nat.le_refl _
          rcases hall with rfl | rfl | rfl | rfl | rfl | rfl | rfl
          · skip
            have hnm : Hid (Calls Tryd.prog 18 #[encStr q] w5 fun e w' => e = .returned (.bool (goodN q)) ∧ New w5 w') := Name_any q (by have := hql.out; unfold maxLen; omega) w5
            obtain ⟨b, hb⟩ : ∃ b, Hid (b = goodN q) := ⟨_, rfl⟩
            rw [← hb.out] at hnm
            go_upto_region 18 with (first
            | (go_at_call 26; refine (field_n C w5).mono ?_; rintro e w9 ⟨rfl, rfl⟩)
            | (go_at_call 18; refine hnm.out.mono ?_; rintro e w2 ⟨rfl, hn2⟩
               have hn2 := Lib.hid hn2
               have hB2 := Lib.hid (hB5.out.new hn2.out)
               have hI2 : Hid (w2.heap[I]? = some (.stringIter ⟨sg.toArray⟩ (j + 1))) := (hn2.out.block I (Array.getElem?_eq_some_iff.1 hI5.out).1).trans hI5.out
               have hN2 := Lib.hid (hN5.out.next hn2.out)
               have cz := hB2.out.cell 1
               have fz := hB2.out.frozen 1
               simp [cuA] at cz
               have hO2 := Lib.hid (own_new hO5.out hn2.out)))
            obtain ⟨hb8, hi8, ho8, hN8⟩ := put_mem (by decide) hB2.out hI2.out hO2.out hN2.out hCw.out 1 (encStr q)
            have hb8 := Lib.hid hb8
            have hi8 := Lib.hid hi8
            have ho8 := Lib.hid ho8
            have hN8 := Lib.hid hN8
            obtain ⟨w8, hw8⟩ : ∃ w8, w8 = w2.setCell ⟨C, 1, none⟩ (encStr q) := ⟨_, rfl⟩
            try rw [← hw8]
            rw [← hw8] at hb8 hi8 ho8 hN8
            clear hw8
            have hst : Hid (RInv f i0 P { cur with nm := q } (j + 1) (ok && b)) := RInv.step hR.out.1 hi0 hls2.out hs2.out ⟨hR.out.1.2.1.o0, hR.out.1.2.1.o1, hR.out.1.2.1.c0, hR.out.1.2.1.c1, hR.out.1.2.1.d0, hR.out.1.2.1.d1, hR.out.1.2.1.k0, hR.out.1.2.1.k1⟩ hR.out.1.1 ⟨hq.out, by rw [← hq.out]; exact hb.out⟩ (keep_n f cur q)
            have hbc : Hid (Blk w8 C 31 (cuA k { cur with nm := q })) := by
              show Blk _ _ _ _
              have h := hb8.out
              simpa [cuA] using h
            clear g1 g2 hji hjw cz fz hnext
            cases ok
            · go_wp2
              go_roundw
              case rel => exact ⟨j + 1, { cur with nm := q }, f, false, rfl, by omega, hi8, hbc, ho8, Lib.hid ⟨hst.out, hR.out.2⟩, hN8⟩
              case measure =>
                have h := hi8.out
                rw [hmu.out]
                simp [World.iterPos, h]
                omega
            · go_wp2
              go_roundw
              case rel => exact ⟨j + 1, { cur with nm := q }, f, b, rfl, by omega, hi8, hbc, ho8, Lib.hid ⟨hst.out, hR.out.2⟩, hN8⟩
              case measure =>
                have h := hi8.out
                rw [hmu.out]
                simp [World.iterPos, h]
                omega
          · skip
            have hnm : Hid (Calls Tryd.prog 18 #[encStr q] w5 fun e w' => e = .returned (.bool (goodN q)) ∧ New w5 w') := Name_any q (by have := hql.out; unfold maxLen; omega) w5
            obtain ⟨b, hb⟩ : ∃ b, Hid (b = goodN q) := ⟨_, rfl⟩
            rw [← hb.out] at hnm
            go_upto_region 18 with (first
            | (go_at_call 26; refine (field_o C w5).mono ?_; rintro e w9 ⟨rfl, rfl⟩)
            | (go_at_call 18; refine hnm.out.mono ?_; rintro e w2 ⟨rfl, hn2⟩
               have hn2 := Lib.hid hn2
               have hB2 := Lib.hid (hB5.out.new hn2.out)
               have hI2 : Hid (w2.heap[I]? = some (.stringIter ⟨sg.toArray⟩ (j + 1))) := (hn2.out.block I (Array.getElem?_eq_some_iff.1 hI5.out).1).trans hI5.out
               have hN2 := Lib.hid (hN5.out.next hn2.out)
               have cz := hB2.out.cell 2
               have fz := hB2.out.frozen 2
               simp [cuA] at cz
               have hO2 := Lib.hid (own_new hO5.out hn2.out)))
            obtain ⟨hb8, hi8, ho8, hN8⟩ := put_mem (by decide) hB2.out hI2.out hO2.out hN2.out hCw.out 2 (encStr q)
            have hb8 := Lib.hid hb8
            have hi8 := Lib.hid hi8
            have ho8 := Lib.hid ho8
            have hN8 := Lib.hid hN8
            obtain ⟨w8, hw8⟩ : ∃ w8, w8 = w2.setCell ⟨C, 2, none⟩ (encStr q) := ⟨_, rfl⟩
            try rw [← hw8]
            rw [← hw8] at hb8 hi8 ho8 hN8
            clear hw8
            have hst : Hid (RInv f i0 P { cur with ot := q } (j + 1) (ok && b)) := RInv.step hR.out.1 hi0 hls2.out hs2.out ⟨hR.out.1.2.1.o0, hR.out.1.2.1.o1, hR.out.1.2.1.c0, hR.out.1.2.1.c1, hR.out.1.2.1.d0, hR.out.1.2.1.d1, hR.out.1.2.1.k0, hR.out.1.2.1.k1⟩ hR.out.1.1 ⟨hq.out, by rw [← hq.out]; exact hb.out⟩ (keep_o f cur q)
            have hbc : Hid (Blk w8 C 31 (cuA k { cur with ot := q })) := by
              show Blk _ _ _ _
              have h := hb8.out
              simpa [cuA] using h
            clear g1 g2 hji hjw cz fz hnext
            cases ok
            · go_wp2
              go_roundw
              case rel => exact ⟨j + 1, { cur with ot := q }, f, false, rfl, by omega, hi8, hbc, ho8, Lib.hid ⟨hst.out, hR.out.2⟩, hN8⟩
              case measure =>
                have h := hi8.out
                rw [hmu.out]
                simp [World.iterPos, h]
                omega
            · go_wp2
              go_roundw
              case rel => exact ⟨j + 1, { cur with ot := q }, f, b, rfl, by omega, hi8, hbc, ho8, Lib.hid ⟨hst.out, hR.out.2⟩, hN8⟩
              case measure =>
                have h := hi8.out
                rw [hmu.out]
                simp [World.iterPos, h]
                omega
          · skip
            have hnm := Lib.hid (hnum.out q hql.out w5 hN5.out)
            go_upto_region 18 with (first
            | (go_at_call 26; refine (field_f C w5).mono ?_; rintro e w9 ⟨rfl, rfl⟩)
            | (go_at_call 31; refine hnm.out.mono ?_; rintro e w2 ⟨x, b, rfl, hP2, hn2⟩
               have hP2 := Lib.hid hP2
               have hn2 := Lib.hid hn2
               have hB2 := Lib.hid (hB5.out.new hn2.out)
               have hI2 : Hid (w2.heap[I]? = some (.stringIter ⟨sg.toArray⟩ (j + 1))) := (hn2.out.block I (Array.getElem?_eq_some_iff.1 hI5.out).1).trans hI5.out
               have hN2 := Lib.hid (hN5.out.next hn2.out)
               have cz := hB2.out.cell 3
               have fz := hB2.out.frozen 3
               simp [cuA] at cz
               have hO2 := Lib.hid (own_new hO5.out hn2.out)))
            obtain ⟨hb8, hi8, ho8, hN8⟩ := put_mem (by decide) hB2.out hI2.out hO2.out hN2.out hCw.out 3 (.int .i64 x)
            have hb8 := Lib.hid hb8
            have hi8 := Lib.hid hi8
            have ho8 := Lib.hid ho8
            have hN8 := Lib.hid hN8
            obtain ⟨w8, hw8⟩ : ∃ w8, w8 = w2.setCell ⟨C, 3, none⟩ (.int .i64 x) := ⟨_, rfl⟩
            try rw [← hw8]
            rw [← hw8] at hb8 hi8 ho8 hN8
            clear hw8
            have hst : Hid (RInv f i0 P { cur with off := x } (j + 1) (ok && b)) := RInv.step hR.out.1 hi0 hls2.out hs2.out ⟨hP2.out.1.1, hP2.out.1.2, hR.out.1.2.1.c0, hR.out.1.2.1.c1, hR.out.1.2.1.d0, hR.out.1.2.1.d1, hR.out.1.2.1.k0, hR.out.1.2.1.k1⟩ hR.out.1.1 (by rw [← hq.out]; exact hP2.out) (keep_f f cur x)
            have hbc : Hid (Blk w8 C 31 (cuA k { cur with off := x })) := by
              show Blk _ _ _ _
              have h := hb8.out
              simpa [cuA] using h
            clear g1 g2 hji hjw cz fz hnext
            cases ok
            · go_wp2
              go_roundw
              case rel => exact ⟨j + 1, { cur with off := x }, f, false, rfl, by omega, hi8, hbc, ho8, Lib.hid ⟨hst.out, hR.out.2⟩, hN8⟩
              case measure =>
                have h := hi8.out
                rw [hmu.out]
                simp [World.iterPos, h]
                omega
            · go_wp2
              go_roundw
              case rel => exact ⟨j + 1, { cur with off := x }, f, b, rfl, by omega, hi8, hbc, ho8, Lib.hid ⟨hst.out, hR.out.2⟩, hN8⟩
              case measure =>
                have h := hi8.out
                rw [hmu.out]
                simp [World.iterPos, h]
                omega
          · skip
            have hnm := Lib.hid (hnum.out q hql.out w5 hN5.out)
            go_upto_region 18 with (first
            | (go_at_call 26; refine (field_c C w5).mono ?_; rintro e w9 ⟨rfl, rfl⟩)
            | (go_at_call 31; refine hnm.out.mono ?_; rintro e w2 ⟨x, b, rfl, hP2, hn2⟩
               have hP2 := Lib.hid hP2
               have hn2 := Lib.hid hn2
               have hB2 := Lib.hid (hB5.out.new hn2.out)
               have hI2 : Hid (w2.heap[I]? = some (.stringIter ⟨sg.toArray⟩ (j + 1))) := (hn2.out.block I (Array.getElem?_eq_some_iff.1 hI5.out).1).trans hI5.out
               have hN2 := Lib.hid (hN5.out.next hn2.out)
               have cz := hB2.out.cell 4
               have fz := hB2.out.frozen 4
               simp [cuA] at cz
               have hO2 := Lib.hid (own_new hO5.out hn2.out)))
            obtain ⟨hb8, hi8, ho8, hN8⟩ := put_mem (by decide) hB2.out hI2.out hO2.out hN2.out hCw.out 4 (.int .i64 x)
            have hb8 := Lib.hid hb8
            have hi8 := Lib.hid hi8
            have ho8 := Lib.hid ho8
            have hN8 := Lib.hid hN8
            obtain ⟨w8, hw8⟩ : ∃ w8, w8 = w2.setCell ⟨C, 4, none⟩ (.int .i64 x) := ⟨_, rfl⟩
            try rw [← hw8]
            rw [← hw8] at hb8 hi8 ho8 hN8
            clear hw8
            have hst : Hid (RInv f i0 P { cur with cnt := x } (j + 1) (ok && b)) := RInv.step hR.out.1 hi0 hls2.out hs2.out ⟨hR.out.1.2.1.o0, hR.out.1.2.1.o1, hP2.out.1.1, hP2.out.1.2, hR.out.1.2.1.d0, hR.out.1.2.1.d1, hR.out.1.2.1.k0, hR.out.1.2.1.k1⟩ hR.out.1.1 (by rw [← hq.out]; exact hP2.out) (keep_c f cur x)
            have hbc : Hid (Blk w8 C 31 (cuA k { cur with cnt := x })) := by
              show Blk _ _ _ _
              have h := hb8.out
              simpa [cuA] using h
            clear g1 g2 hji hjw cz fz hnext
            cases ok
            · go_wp2
              go_roundw
              case rel => exact ⟨j + 1, { cur with cnt := x }, f, false, rfl, by omega, hi8, hbc, ho8, Lib.hid ⟨hst.out, hR.out.2⟩, hN8⟩
              case measure =>
                have h := hi8.out
                rw [hmu.out]
                simp [World.iterPos, h]
                omega
            · go_wp2
              go_roundw
              case rel => exact ⟨j + 1, { cur with cnt := x }, f, b, rfl, by omega, hi8, hbc, ho8, Lib.hid ⟨hst.out, hR.out.2⟩, hN8⟩
              case measure =>
                have h := hi8.out
                rw [hmu.out]
                simp [World.iterPos, h]
                omega
          · skip
            have hnm := Lib.hid (hnum.out q hql.out w5 hN5.out)
            go_upto_region 18 with (first
            | (go_at_call 26; refine (field_d C w5).mono ?_; rintro e w9 ⟨rfl, rfl⟩)
            | (go_at_call 31; refine hnm.out.mono ?_; rintro e w2 ⟨x, b, rfl, hP2, hn2⟩
               have hP2 := Lib.hid hP2
               have hn2 := Lib.hid hn2
               have hB2 := Lib.hid (hB5.out.new hn2.out)
               have hI2 : Hid (w2.heap[I]? = some (.stringIter ⟨sg.toArray⟩ (j + 1))) := (hn2.out.block I (Array.getElem?_eq_some_iff.1 hI5.out).1).trans hI5.out
               have hN2 := Lib.hid (hN5.out.next hn2.out)
               have cz := hB2.out.cell 5
               have fz := hB2.out.frozen 5
               simp [cuA] at cz
               have hO2 := Lib.hid (own_new hO5.out hn2.out)))
            obtain ⟨hb8, hi8, ho8, hN8⟩ := put_mem (by decide) hB2.out hI2.out hO2.out hN2.out hCw.out 5 (.int .i64 x)
            have hb8 := Lib.hid hb8
            have hi8 := Lib.hid hi8
            have ho8 := Lib.hid ho8
            have hN8 := Lib.hid hN8
            obtain ⟨w8, hw8⟩ : ∃ w8, w8 = w2.setCell ⟨C, 5, none⟩ (.int .i64 x) := ⟨_, rfl⟩
            try rw [← hw8]
            rw [← hw8] at hb8 hi8 ho8 hN8
            clear hw8
            have hst : Hid (RInv f i0 P { cur with drv := x } (j + 1) (ok && b)) := RInv.step hR.out.1 hi0 hls2.out hs2.out ⟨hR.out.1.2.1.o0, hR.out.1.2.1.o1, hR.out.1.2.1.c0, hR.out.1.2.1.c1, hP2.out.1.1, hP2.out.1.2, hR.out.1.2.1.k0, hR.out.1.2.1.k1⟩ hR.out.1.1 (by rw [← hq.out]; exact hP2.out) (keep_d f cur x)
            have hbc : Hid (Blk w8 C 31 (cuA k { cur with drv := x })) := by
              show Blk _ _ _ _
              have h := hb8.out
              simpa [cuA] using h
            clear g1 g2 hji hjw cz fz hnext
            cases ok
            · go_wp2
              go_roundw
              case rel => exact ⟨j + 1, { cur with drv := x }, f, false, rfl, by omega, hi8, hbc, ho8, Lib.hid ⟨hst.out, hR.out.2⟩, hN8⟩
              case measure =>
                have h := hi8.out
                rw [hmu.out]
                simp [World.iterPos, h]
                omega
            · go_wp2
              go_roundw
              case rel => exact ⟨j + 1, { cur with drv := x }, f, b, rfl, by omega, hi8, hbc, ho8, Lib.hid ⟨hst.out, hR.out.2⟩, hN8⟩
              case measure =>
                have h := hi8.out
                rw [hmu.out]
                simp [World.iterPos, h]
                omega
          · skip
            have hnm := Lib.hid (hnum.out q hql.out w5 hN5.out)
            go_upto_region 18 with (first
            | (go_at_call 26; refine (field_k C w5).mono ?_; rintro e w9 ⟨rfl, rfl⟩)
            | (go_at_call 31; refine hnm.out.mono ?_; rintro e w2 ⟨x, b, rfl, hP2, hn2⟩
               have hP2 := Lib.hid hP2
               have hn2 := Lib.hid hn2
               have hB2 := Lib.hid (hB5.out.new hn2.out)
               have hI2 : Hid (w2.heap[I]? = some (.stringIter ⟨sg.toArray⟩ (j + 1))) := (hn2.out.block I (Array.getElem?_eq_some_iff.1 hI5.out).1).trans hI5.out
               have hN2 := Lib.hid (hN5.out.next hn2.out)
               have cz := hB2.out.cell 6
               have fz := hB2.out.frozen 6
               simp [cuA] at cz
               have hO2 := Lib.hid (own_new hO5.out hn2.out)))
            obtain ⟨hb8, hi8, ho8, hN8⟩ := put_mem (by decide) hB2.out hI2.out hO2.out hN2.out hCw.out 6 (.int .i64 x)
            have hb8 := Lib.hid hb8
            have hi8 := Lib.hid hi8
            have ho8 := Lib.hid ho8
            have hN8 := Lib.hid hN8
            obtain ⟨w8, hw8⟩ : ∃ w8, w8 = w2.setCell ⟨C, 6, none⟩ (.int .i64 x) := ⟨_, rfl⟩
            try rw [← hw8]
            rw [← hw8] at hb8 hi8 ho8 hN8
            clear hw8
            have hst : Hid (RInv f i0 P { cur with kp := x } (j + 1) (ok && b)) := RInv.step hR.out.1 hi0 hls2.out hs2.out ⟨hR.out.1.2.1.o0, hR.out.1.2.1.o1, hR.out.1.2.1.c0, hR.out.1.2.1.c1, hR.out.1.2.1.d0, hR.out.1.2.1.d1, hP2.out.1.1, hP2.out.1.2⟩ hR.out.1.1 (by rw [← hq.out]; exact hP2.out) (keep_k f cur x)
            have hbc : Hid (Blk w8 C 31 (cuA k { cur with kp := x })) := by
              show Blk _ _ _ _
              have h := hb8.out
              simpa [cuA] using h
            clear g1 g2 hji hjw cz fz hnext
            cases ok
            · go_wp2
              go_roundw
              case rel => exact ⟨j + 1, { cur with kp := x }, f, false, rfl, by omega, hi8, hbc, ho8, Lib.hid ⟨hst.out, hR.out.2⟩, hN8⟩
              case measure =>
                have h := hi8.out
                rw [hmu.out]
                simp [World.iterPos, h]
                omega
            · go_wp2
              go_roundw
              case rel => exact ⟨j + 1, { cur with kp := x }, f, b, rfl, by omega, hi8, hbc, ho8, Lib.hid ⟨hst.out, hR.out.2⟩, hN8⟩
              case measure =>
                have h := hi8.out
                rw [hmu.out]
                simp [World.iterPos, h]
                omega
          · skip
            have hnm := Lib.hid (unhex_any q hql.out w5)
            go_upto_region 18 with (first
            | (go_at_call 26; refine (field_x C w5).mono ?_; rintro e w9 ⟨rfl, rfl⟩)
            | (go_at_call 32; refine hnm.out.mono ?_; rintro e w2 ⟨v2, g, nn, b, rfl, hP2, ho2, hn2⟩
               have hP2 := Lib.hid hP2
               obtain ⟨R2, c2, rfl⟩ := own_slice ho2
               have hn2 := Lib.hid hn2
               have hB2 := Lib.hid (hB5.out.new hn2.out)
               have hI2 : Hid (w2.heap[I]? = some (.stringIter ⟨sg.toArray⟩ (j + 1))) := (hn2.out.block I (Array.getElem?_eq_some_iff.1 hI5.out).1).trans hI5.out
               have hN2 := Lib.hid (hN5.out.next hn2.out)
               have cz := hB2.out.cell 7
               have fz := hB2.out.frozen 7
               simp [cuA] at cz
               have hO2 := Lib.hid (own_mono ho2 hN5.out.size)))
            obtain ⟨hb8, hi8, ho8, hN8⟩ := put_mem (by decide) hB2.out hI2.out hO2.out hN2.out hCw.out 7 (.slice R2 nn c2)
            have hb8 := Lib.hid hb8
            have hi8 := Lib.hid hi8
            have ho8 := Lib.hid ho8
            have hN8 := Lib.hid hN8
            obtain ⟨w8, hw8⟩ : ∃ w8, w8 = w2.setCell ⟨C, 7, none⟩ (.slice R2 nn c2) := ⟨_, rfl⟩
            try rw [← hw8]
            rw [← hw8] at hb8 hi8 ho8 hN8
            clear hw8
            have hst : Hid (RInv g i0 P { cur with R := R2, dn := nn, dc := c2 } (j + 1) (ok && b)) := RInv.step hR.out.1 hi0 hls2.out hs2.out ⟨hR.out.1.2.1.o0, hR.out.1.2.1.o1, hR.out.1.2.1.c0, hR.out.1.2.1.c1, hR.out.1.2.1.d0, hR.out.1.2.1.d1, hR.out.1.2.1.k0, hR.out.1.2.1.k1⟩ hP2.out.1.1 (by rw [← hq.out]; exact hP2.out) (keep_x f g cur R2 nn c2)
            have hbc : Hid (Blk w8 C 31 (cuA k { cur with R := R2, dn := nn, dc := c2 })) := by
              show Blk _ _ _ _
              have h := hb8.out
              simpa [cuA] using h
            clear g1 g2 hji hjw cz fz hnext
            cases ok
            · go_wp2
              go_roundw
              case rel => exact ⟨j + 1, { cur with R := R2, dn := nn, dc := c2 }, g, false, rfl, by omega, hi8, hbc, ho8, Lib.hid ⟨hst.out, Nat.le_trans hP2.out.1.2 hql.out⟩, hN8⟩
              case measure =>
                have h := hi8.out
                rw [hmu.out]
                simp [World.iterPos, h]
                omega
            · go_wp2
              go_roundw
              case rel => exact ⟨j + 1, { cur with R := R2, dn := nn, dc := c2 }, g, b, rfl, by omega, hi8, hbc, ho8, Lib.hid ⟨hst.out, Nat.le_trans hP2.out.1.2 hql.out⟩, hN8⟩
              case measure =>
                have h := hi8.out
                rw [hmu.out]
                simp [World.iterPos, h]
                omega
        · have hjm : j = m := by omega
          subst hjm
          have hend : ∀ ty, (Instr.next (.pointer (some ⟨I, 0, none⟩)) true ty).run Tryd.prog wr = .ok (.tuple #[.bool false]) wr := fun ty => Lib.run_next_end_at (P := Tryd.prog) wr I ⟨sg.toArray⟩ j ty hIt.out (by show ¬ j < sg.toArray.size; have := hm.out; simp; omega)
          have hbr : Hid (Blk wr w.heap.size 31 (cuA 0 zC)) := hbB.out.new hN.out
          have hNr := Lib.hid (hNB.out.next hN.out)
          have hcd := hR.out.1
          rw [hm.out, hsg.out, hP.out] at hcd
          obtain ⟨bs, hCa, hok⟩ := hcd.cand
          have hfc := Lib.hid hcd.1
          have hbc := Lib.hid hcd.2.1
          have hCa := Lib.hid hCa
          have hok := Lib.hid hok
          have hRd := Lib.hid (own_rdI hO.out (by have := hR.out.2; unfold maxLen; omega))
          cases ok
          · have hnone : Hid (∀ i, i < 19 → NoneAt line i) := fun i hi => by
              by_cases e : i = i0
              · subst e
                intro f' C' hB' hf' hs'
                have := hok.out.2 (hCa.out.fine hi hB' hf' hs')
                cases this
              · refine none_word hi ?_
                rw [← hP.out, hp0.out, ← hwi.out]
                exact fun h => e (word_inj i hi i0 hi0 h.symm)
            clear hcd
            go_wp2_with (refine wpList_store_row rfl 31 _ _ rfl w.heap.size (cuA 0 zC) rfl rfl 31 (cuA 0 zC) hbr.out (by kernel_rfl) rfl (cu_one 0 zC) ?_)
            exact bodyPost_ret (v := .tuple #[.agg (cuA 0 zC), .int .i64 4]) (results_cell_slot Tryd.results11 _ _ w.heap.size 31 (cuA 0 zC) _ rfl (hbr.out.row (cuA 0 zC)) Tryd.underlying31 rfl (by kernel_rfl)) rfl (RdR.none hnone.out (hNr.out.row (Nat.le_refl _) _))
          · have hshow : Hid (showT f k cur = (line, 0)) := by
              show _ = _
              rw [hk.out]
              refine hCa.out.good hi0 ?_ ?_ (hok.out.1 rfl)
              · rw [← hP.out, ← hn.out, ← hsg.out, ← hm.out]
                exact hlenH.out
              · rw [← hP.out, hp0.out, ← hwi.out]
            obtain ⟨A, hA⟩ : ∃ A, Hid (A = cuA k cur) := ⟨_, rfl⟩
            have x0 := hB.out.cell 0
            have x1 := hB.out.cell 1
            have x2 := hB.out.cell 2
            have x3 := hB.out.cell 3
            have x4 := hB.out.cell 4
            have x5 := hB.out.cell 5
            have x6 := hB.out.cell 6
            have x7 := hB.out.cell 7
            simp [cuA] at x0 x1 x2 x3 x4 x5 x6 x7
            have hfin : Hid (RdR line w (.returned (.tuple #[.agg (cuA k cur), .int .i64 0])) (wr.setRow w.heap.size (cuA k cur))) :=
              ⟨k, cur, f, 0, rfl, ⟨⟨hfc.out, hbc.out⟩, .inl ⟨rfl, hshow.out⟩⟩, ⟨own_rdI (Alt.own (Alt.row (K := fun g => g = w.heap.size) (Alt.refl wr) (.inl rfl) _) hO.out fun g hg e => by
                subst e
                exact own_ne_blk hO.out hbr.out (by decide) hg) (by have := hR.out.2; unfold maxLen; omega), hR.out.2⟩, hNr.out.row (Nat.le_refl _) _⟩
            clear hcd
            go_wp2_with (refine wpList_store_row rfl 31 _ _ rfl w.heap.size (cuA k cur) rfl rfl 31 (cuA 0 zC) hbr.out (by kernel_rfl) rfl (cu_one k cur) ?_)
            exact bodyPost_ret (v := .tuple #[.agg (cuA k cur), .int .i64 0]) (results_cell_slot Tryd.results11 _ _ w.heap.size 31 (cuA k cur) _ rfl (hbr.out.row (cuA k cur)) Tryd.underlying31 rfl (by kernel_rfl)) rfl hfin.out
    · have hne : ((n : Int) != (m : Int) + 1) = true := by simp; omega
      have hm4 : m ≤ 4 := by rw [hm.out, hsg.out]; exact (signs_ok i0 hi0).1
      have hmw : IntKind.i64.wrap ((m : Int) + 1) = (m : Int) + 1 := IntWalk.i64_in _ (by omega)
      have hnone : Hid (∀ i, i < 19 → NoneAt line i) := fun i hi => by
        by_cases e : i = i0
        · subst e
          refine none_len hi ?_
          rw [← hP.out, ← hn.out, ← hsg.out, ← hm.out]
          exact hlen
        · refine none_word hi ?_
          rw [← hP.out, hp0.out, ← hwi.out]
          exact fun h => e (word_inj i hi i0 hi0 h.symm)
      clear hlen hbG hbH hHc hF
      go_quiet (fail)
      rename_i nq
      have hb5 : Hid (Blk (w4.drewN nq) w.heap.size 31 (cuA 0 zC)) := hb4.out
      have hN5 := Lib.hid (hN4.out.drewN nq)
      go_wp2_with (refine wpList_store_row rfl 31 _ _ rfl w.heap.size (cuA 0 zC) rfl rfl 31 (cuA 0 zC) hb5.out (by kernel_rfl) rfl (cu_one 0 zC) ?_)
      exact bodyPost_ret (v := .tuple #[.agg (cuA 0 zC), .int .i64 4]) (results_cell_slot Tryd.results11 _ _ w.heap.size 31 (cuA 0 zC) _ rfl (hb5.out.row (cuA 0 zC)) Tryd.underlying31 rfl (by kernel_rfl)) rfl (RdR.none hnone.out (hN5.out.row (Nat.le_refl _) _))
end Go.Proofs.YtaommipcdcncnaaDoor.desk
