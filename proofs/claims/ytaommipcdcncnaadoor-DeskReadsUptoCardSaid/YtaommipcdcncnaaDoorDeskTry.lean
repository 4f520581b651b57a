/-
  Contract of the reference's CommandRead.
-/
import Derived.Test.YtaommipcdcncnaaDoorDeskReadP
import Derived.Test.YtaommipcdcncnaaDoorDeskAt
import Derived.Test.YtaommipcdcncnaaDoorDeskShown
import Derived.Test.YtaommipcdcncnaaDoorDeskUnhexa
import Derived.Deep.DeepCutAuto
import Derived.Deep.CutBlock
import Derived.Laws.EntriesVeiled
namespace Go.Proofs.YtaommipcdcncnaaDoor.desk
open Go.ChangeShapes Go.WideShapes Go.ChangeAt Go.RowKit Go.Proofs.YtaommipcdcncnaaDoor.kit Go.Deep
set_option linter.unusedVariables false
set_option maxRecDepth 100000
/-- a candidate in memory -/
def CandM (WB : World) (G i : Nat) (P : List Tx) (wx : World) : Prop := ∃ cur f bs, Blk wx G 31 (cuA ((i : Int) + 1) cur) ∧ CuOk wx f cur ∧ (∀ i, f i < 256) ∧ Cand f i P cur bs ∧ New WB wx ∧ ∀ b off, cur.R = some ⟨b, off, none⟩ → WB.heap.size ≤ b
theorem put1 {WB w : World} {G : Nat} {cs : Array Value} {t : TypeId} (h : Blk w G t cs) (hN : New WB w) (hG : WB.heap.size ≤ G) (e : Nat) (z : Value) : Blk (w.setCell ⟨G, e, none⟩ z) G t (cs.setIfInBounds e z) ∧ New WB (w.setCell ⟨G, e, none⟩ z) := ⟨h.put e z, hN.set hG _⟩
theorem BdC.ok {w : World} {f : Nat → Nat} {c : Cu} (h : BdC c) (hn : c.nm.length ≤ 1048576) (ho : c.ot.length ≤ 1048576) (hd : RdI .u8 w c.R c.dn (fun i => (f i : Nat))) (h1 : c.dn ≤ 1048576) : CuOk w f c := ⟨hn, ho, h.o0, h.o1, h.c0, h.c1, h.d0, h.d1, h.k0, h.k1, hd, h1⟩
theorem CuOk.bd {w : World} {f : Nat → Nat} {c : Cu} (h : CuOk w f c) : BdC c := ⟨h.o0, h.o1, h.c0, h.c1, h.d0, h.d1, h.k0, h.k1⟩
theorem rng {n : Nat} (h1 : 1 ≤ n) (h : n ≤ 19) : n = 1 ∨ n = 2 ∨ n = 3 ∨ n = 4 ∨ n = 5 ∨ n = 6 ∨ n = 7 ∨ n = 8 ∨ n = 9 ∨ n = 10 ∨ n = 11 ∨ n = 12 ∨ n = 13 ∨ n = 14 ∨ n = 15 ∨ n = 16 ∨ n = 17 ∨ n = 18 ∨ n = 19 := by omega
set_option maxHeartbeats 2000000 in
theorem Try_any (line : Tx) (hl : line.length ≤ 1048576) (w : World) :
    Calls Tryd.prog 12 #[encStr line] w (RdR line w) := by
  obtain ⟨P, hP⟩ : ∃ P, Hid (P = cutT line) := ⟨_, rfl⟩
  obtain ⟨n, hn⟩ : ∃ n, Hid (n = P.length) := ⟨_, rfl⟩
  have hn0 : 0 < n := by
    obtain ⟨p0, pt, hcut, _⟩ := cut_join line
    rw [hn.out, hP.out, hcut]
    simp
  have hnm : n ≤ 1048577 := by
    rw [hn.out, hP.out]
    have := cut_len_le line
    omega
  have hPl : Hid (∀ i, (P.getD i []).length ≤ 1048576) := by
    intro i
    by_cases hi : i < P.length
    · have : P.getD i [] ∈ cutT line := by rw [← hP.out]; exact getD_mem hi
      exact Nat.le_trans (cut_mem_len line _ this) hl
    · rw [List.getD, List.getElem?_eq_none (by omega)]
      exact Nat.zero_le _
  have hS : Hid (∀ w', Calls Tryd.prog 33 #[encStr line] w' fun e w'' => ∃ H c, e = .returned (.slice (some ⟨H, 0, none⟩) n c) ∧ w''.ownsRow w'.heap.size 9 1 (.slice (some ⟨H, 0, none⟩) n c) n (P.map encStr) ∧ New w' w'') := fun w' => by
    refine (pieces_any line hl w').mono ?_
    rintro e w'' ⟨v, rfl, ho, hn'⟩
    rw [← hP.out, ← hn.out] at ho
    rcases ho.2 with ⟨h0, h1⟩ | ⟨g', cap, cur, h0, _⟩
    · omega
    · subst h0
      exact ⟨g', cap, rfl, ho, hn'⟩
  obtain ⟨W1, hW1⟩ : ∃ W1, W1 = w.alloc (.cells #[.int .i64 0, .string ⟨#[]⟩, .string ⟨#[]⟩, .int .i64 0, .int .i64 0, .int .i64 0, .int .i64 0, .slice none 0 0] 31) := ⟨_, rfl⟩
  have hN1 : Hid (New w W1) := by show New _ _; rw [hW1]; exact (New.refl w).alloc _
  have hb1 : Hid (Blk W1 w.heap.size 31 (cuA 0 zC)) := by show Blk _ _ _ _; rw [hW1]; exact Blk.fresh _ _ _
  obtain ⟨v, hv⟩ : ∃ v, Hid (v = encStr line) := ⟨_, rfl⟩
  rw [← hv.out] at hS ⊢
  go_enter Tryd.func12, Tryd.ntmps12
  go_upto_region 1 with fail
  rw [← hW1]
  clear hW1
  go_upto_region 2 with (go_at_call 33; refine (hS.out _).mono ?_; rintro e w2 ⟨H, c, rfl, ho2, hn2⟩; have ho2 := Lib.hid ho2; have hn2 := Lib.hid hn2)
  obtain ⟨W3, hW3⟩ : ∃ W3, W3 = w2.alloc (.cells #[.slice (some ⟨H, 0, none⟩) n c] 24) := ⟨_, rfl⟩
  obtain ⟨G, hG⟩ : ∃ G, Hid (G = w2.heap.size) := ⟨_, rfl⟩
  have hN3 : Hid (New W1 W3) := by show New _ _; rw [hW3]; exact hn2.out.alloc _
  have hbG : Hid (Blk W3 G 24 #[.slice (some ⟨H, 0, none⟩) n c]) := by show Blk _ _ _ _; rw [hW3, hG.out]; exact Blk.fresh _ _ _
  have hHc : Hid (∀ i, i < n → W3.cell? ⟨H, i, none⟩ = some (encStr (P.getD i []))) := fun i hi => by
    rw [hW3]
    have h := World.ownsRow.cells (ho2.out.alloc (.cells #[.slice (some ⟨H, 0, none⟩) n c] 24)) (g := H) rfl i (encStr (P.getD i [])) (by
      have hi2 : i < P.length := by rw [← hn.out]; exact hi
      simp [List.getD, hi2])
    rw [add_cell, Nat.zero_add] at h
    exact h
  rw [← hW3, ← hG.out]
  clear hW3
  have hb3 := Lib.hid (hb1.out.new hN3.out)
  obtain ⟨WB, hWB⟩ : ∃ WB, WB = W3.alloc (.cells #[.func (.func 34) #[] #[.pointer (some ⟨G, 0, none⟩)]] 42) := ⟨_, rfl⟩
  obtain ⟨A, hA⟩ : ∃ A, Hid (A = W3.heap.size) := ⟨_, rfl⟩
  have hN3B : Hid (New W3 WB) := by show New _ _; rw [hWB]; exact (New.refl W3).alloc _
  have hbA : Hid (Blk WB A 42 #[.func (.func 34) #[] #[.pointer (some ⟨G, 0, none⟩)]]) := by show Blk _ _ _ _; rw [hWB, hA.out]; exact Blk.fresh _ _ _
  have hbB := Lib.hid (hb3.out.new hN3B.out)
  have hNB := Lib.hid ((hN1.out.next hN3.out).next hN3B.out)
  have hAc : Hid (∀ w', New WB w' → w'.cell? ⟨A, 0, none⟩ = some (.func (.func 34) #[] #[.pointer (some ⟨G, 0, none⟩)])) := fun w' hn' => by rw [(hbA.out.new hn').cell]; rfl
  have hat : Hid (∀ i, i < 100 → ∀ w', New WB w' → Calls Tryd.prog 34 #[.int .i64 (i : Nat), .pointer (some ⟨G, 0, none⟩)] w' fun e w'' => e = .returned (encStr (P.getD i [])) ∧ w' = w'') := fun i hi w' hn' => by
    have hx := hN3B.out.next hn'
    exact at_any i hi G H n c P hn.out w' (by rw [(hbG.out.new hx).cell]; rfl) (fun i hi => (hx.cell (lt_of_cell (hHc.out i hi))).trans (hHc.out i hi))
  have hnum : Hid (∀ i, i < 100 → ∀ w', New WB w' → Calls Tryd.prog 35 #[.int .i64 (i : Nat), .pointer (some ⟨A, 0, none⟩)] w' fun e w'' => ∃ m b, e = .returned (.int .i64 m) ∧ NumP (P.getD i []) m b ∧ New w' w'') := fun i hi w' hn' => by
    have hx := hN3B.out.next hn'
    exact num_any i hi G H n c A P hn.out hPl.out w' (hAc.out w' hn') (by rw [(hbG.out.new hx).cell]; rfl) (fun i hi => (hx.cell (lt_of_cell (hHc.out i hi))).trans (hHc.out i hi))
  go_upto_region 4 with fail
  rw [← hWB, ← hA.out]
  clear hWB
  obtain ⟨q1, hq1⟩ : ∃ q, Hid (q = P.getD 1 []) := ⟨_, rfl⟩
  obtain ⟨q2, hq2⟩ : ∃ q, Hid (q = P.getD 2 []) := ⟨_, rfl⟩
  obtain ⟨q3, hq3⟩ : ∃ q, Hid (q = P.getD 3 []) := ⟨_, rfl⟩
  obtain ⟨q4, hq4⟩ : ∃ q, Hid (q = P.getD 4 []) := ⟨_, rfl⟩
  have hat1 : Hid (∀ w', New WB w' → Calls Tryd.prog 34 #[.int .i64 1, .pointer (some ⟨G, 0, none⟩)] w' fun e w'' => e = .returned (encStr q1) ∧ w' = w'') := fun w' hn' => by rw [hq1.out]; exact hat.out 1 (by decide) w' hn'
  have hat2 : Hid (∀ w', New WB w' → Calls Tryd.prog 34 #[.int .i64 2, .pointer (some ⟨G, 0, none⟩)] w' fun e w'' => e = .returned (encStr q2) ∧ w' = w'') := fun w' hn' => by rw [hq2.out]; exact hat.out 2 (by decide) w' hn'
  have hat3 : Hid (∀ w', New WB w' → Calls Tryd.prog 34 #[.int .i64 3, .pointer (some ⟨G, 0, none⟩)] w' fun e w'' => e = .returned (encStr q3) ∧ w' = w'') := fun w' hn' => by rw [hq3.out]; exact hat.out 3 (by decide) w' hn'
  have hnum1 : Hid (∀ w', New WB w' → Calls Tryd.prog 35 #[.int .i64 1, .pointer (some ⟨A, 0, none⟩)] w' fun e w'' => ∃ m b, e = .returned (.int .i64 m) ∧ NumP q1 m b ∧ New w' w'') := fun w' hn' => by rw [hq1.out]; exact hnum.out 1 (by decide) w' hn'
  have hnum2 : Hid (∀ w', New WB w' → Calls Tryd.prog 35 #[.int .i64 2, .pointer (some ⟨A, 0, none⟩)] w' fun e w'' => ∃ m b, e = .returned (.int .i64 m) ∧ NumP q2 m b ∧ New w' w'') := fun w' hn' => by rw [hq2.out]; exact hnum.out 2 (by decide) w' hn'
  have hnum3 : Hid (∀ w', New WB w' → Calls Tryd.prog 35 #[.int .i64 3, .pointer (some ⟨A, 0, none⟩)] w' fun e w'' => ∃ m b, e = .returned (.int .i64 m) ∧ NumP q3 m b ∧ New w' w'') := fun w' hn' => by rw [hq3.out]; exact hnum.out 3 (by decide) w' hn'
  have hnum4 : Hid (∀ w', New WB w' → Calls Tryd.prog 35 #[.int .i64 4, .pointer (some ⟨A, 0, none⟩)] w' fun e w'' => ∃ m b, e = .returned (.int .i64 m) ∧ NumP q4 m b ∧ New w' w'') := fun w' hn' => by rw [hq4.out]; exact hnum.out 4 (by decide) w' hn'
  have hl1 : Hid (q1.length ≤ 1048576) := by show _ ≤ _; rw [hq1.out]; exact hPl.out _
  have hl2 : Hid (q2.length ≤ 1048576) := by show _ ≤ _; rw [hq2.out]; exact hPl.out _
  have hl3 : Hid (q3.length ≤ 1048576) := by show _ ≤ _; rw [hq3.out]; exact hPl.out _
  have hhex := Lib.hid (fun w' => unhexa_any q3 hl3.out w')
  go_upto_region 5 with fail
  go_loopw [7] (fun x wr => ∃ m : Nat, x = .int .i64 (m : Nat) ∧ 1 ≤ m ∧ m ≤ 20 ∧ Hid (∀ j, j + 1 < m → NoneAt line j) ∧ Hid (New WB wr)) (fun x _ => 20 - (intOf x).toNat)
  case atStart => exact ⟨1, rfl, by decide, by decide, Lib.hid (fun j hj => absurd hj (by omega)), Lib.hid (New.refl _)⟩
  case round =>
    obtain ⟨m, rfl, hm1, hm20, hno, hN⟩ := hrel
    have hbr : Hid (Blk wr w.heap.size 31 (cuA 0 zC)) := hbB.out.new hN.out
    have hNr := Lib.hid (hNB.out.next hN.out)
    by_cases hlt : m ≤ 19
    · have hli : (m : Int) ≤ 19 := by omega
      obtain ⟨W5, hW5⟩ : ∃ W5, W5 = wr.alloc (.cells #[.int .i64 (m : Nat), .string ⟨#[]⟩, .string ⟨#[]⟩, .int .i64 0, .int .i64 0, .int .i64 0, .int .i64 0, .slice none 0 0] 31) := ⟨_, rfl⟩
      obtain ⟨C, hC⟩ : ∃ C, Hid (C = wr.heap.size) := ⟨_, rfl⟩
      have hb5 : Hid (Blk W5 C 31 (cuA (m : Nat) zC)) := by show Blk _ _ _ _; rw [hW5, hC.out]; exact Blk.fresh _ _ _
      have hN5 : Hid (New WB W5) := by show New _ _; rw [hW5]; exact hN.out.alloc _
      have hN5r : Hid (New wr W5) := by show New _ _; rw [hW5]; exact (New.refl wr).alloc _
      have hCr : Hid (wr.heap.size ≤ C) := by show _ ≤ _; rw [hC.out]; exact Nat.le_refl _
      have hCw : Hid (WB.heap.size ≤ C) := Nat.le_trans hN.out.size hCr.out
      go_upto_region 8 with fail
      rw [← hW5, ← hC.out]
      clear hW5
      obtain ⟨i, hi⟩ : ∃ i, Hid (i + 1 = m) := ⟨m - 1, by show _ = _; omega⟩
      go_upto_block 2 with fail
      go_cut [] (fun wx => Hid (CandM wr C i P wx))
      case first =>
        rcases rng hm1 hlt with rfl | rfl | rfl | rfl | rfl | rfl | rfl | rfl | rfl | rfl | rfl | rfl | rfl | rfl | rfl | rfl | rfl | rfl | rfl
        · as_aux_lemma => (
            skip
            have hB0 : Hid (Blk W5 C 31 (cuA 1 ⟨[], [], 0, 0, 0, 0, none, 0, 0⟩)) := hb5.out
            have hM0 := Lib.hid hN5r.out
            have hV0 := Lib.hid hN5.out
            go_upto_region 11 with fail
            have a0 := hAc.out W5 hV0.out
            have cz := hB0.out.cell 1
            have fz := hB0.out.frozen 1
            simp [cuA] at cz
            have hc := Lib.hid (hat1.out W5 hV0.out)
            go_wp2_with (go_at_call 34; refine hc.out.mono ?_; rintro e w9 ⟨rfl, rfl⟩)
            obtain ⟨W30, hW30⟩ : ∃ x, x = W5.setCell ⟨C, 1, none⟩ (encStr q1) := ⟨_, rfl⟩
            have hB1 : Hid (Blk W30 C 31 (cuA 1 ⟨q1, [], 0, 0, 0, 0, none, 0, 0⟩)) := by
              show Blk _ _ _ _
              rw [hW30]
              have h := (hB0.out).put 1 (encStr q1)
              simpa [cuA] using h
            have hV1 : Hid (New WB W30) := by show New _ _; rw [hW30]; exact (hV0.out).set hCw.out _
            have hM1 : Hid (New wr W30) := by show New _ _; rw [hW30]; exact (hM0.out).set hCr.out _
            go_meet
            show CandM wr C i P _
            rw [← hW30]
            have hi' : i = 0 := by have := hi.out; omega
            subst hi'
            refine ⟨⟨q1, [], 0, 0, 0, 0, none, 0, 0⟩, fun _ => 0, fun j => [goodN (P.getD 1 [])].getD j true, hB1.out, BdC.ok (c := ⟨q1, [], 0, 0, 0, 0, none, 0, 0⟩) ⟨z0, z1, z0, z1, z0, z1, z0, z1⟩ hl1.out (Nat.zero_le _) (rdI_nil _ _) (Nat.zero_le _), fun _ => by show 0 < 256; decide, ⟨fun j h => ?_, fun t ht => ?_⟩, hM1.out, fun b off h => by cases h⟩
            · have hlen : (wordK 0).2.length = 1 := rfl
              match j, h with
              | 0, _ => exact ⟨hq1.out, rfl⟩
              | j + 1, h => exact absurd h (by rw [hlen]; omega)
            · rcases ht with rfl | rfl | rfl | rfl | rfl | rfl | rfl <;> first | exact .inl (by decide) | exact .inr rfl)
        · as_aux_lemma => (
            skip
            have hB0 : Hid (Blk W5 C 31 (cuA 2 ⟨[], [], 0, 0, 0, 0, none, 0, 0⟩)) := hb5.out
            have hM0 := Lib.hid hN5r.out
            have hV0 := Lib.hid hN5.out
            go_upto_region 13 with fail
            have a0 := hAc.out W5 hV0.out
            have cz := hB0.out.cell 1
            have fz := hB0.out.frozen 1
            simp [cuA] at cz
            have hc := Lib.hid (hat1.out W5 hV0.out)
            go_upto_region 14 with (go_at_call 34; refine hc.out.mono ?_; rintro e w9 ⟨rfl, rfl⟩)
            obtain ⟨W30, hW30⟩ : ∃ x, x = W5.setCell ⟨C, 1, none⟩ (encStr q1) := ⟨_, rfl⟩
            have hB1 : Hid (Blk W30 C 31 (cuA 2 ⟨q1, [], 0, 0, 0, 0, none, 0, 0⟩)) := by
              show Blk _ _ _ _
              rw [hW30]
              have h := (hB0.out).put 1 (encStr q1)
              simpa [cuA] using h
            have hV1 : Hid (New WB W30) := by show New _ _; rw [hW30]; exact (hV0.out).set hCw.out _
            have hM1 : Hid (New wr W30) := by show New _ _; rw [hW30]; exact (hM0.out).set hCr.out _
            rw [← hW30]
            clear hW30 a0 cz fz hc
            have a0 := hAc.out W30 hV1.out
            have hc := Lib.hid (hnum2.out W30 hV1.out)
            go_upto_region 15 with (first
              | (go_at_call 35; refine hc.out.mono ?_; rintro e w21 ⟨x1, b1, rfl, hP1, hn2⟩
                 have hP1 := Lib.hid hP1
                 have hn2 := Lib.hid hn2
                 have hBm := Lib.hid (hB1.out.new hn2.out)
                 have hVm := Lib.hid (hV1.out.next hn2.out)
                 have hMm := Lib.hid (hM1.out.next hn2.out)
                 have cz := hBm.out.cell 3
                 have fz := hBm.out.frozen 3
                 simp [cuA] at cz))
            obtain ⟨W31, hW31⟩ : ∃ x, x = w21.setCell ⟨C, 3, none⟩ (.int .i64 x1) := ⟨_, rfl⟩
            have hB2 : Hid (Blk W31 C 31 (cuA 2 ⟨q1, [], x1, 0, 0, 0, none, 0, 0⟩)) := by
              show Blk _ _ _ _
              rw [hW31]
              have h := (hBm.out).put 3 (.int .i64 x1)
              simpa [cuA] using h
            have hV2 : Hid (New WB W31) := by show New _ _; rw [hW31]; exact (hVm.out).set hCw.out _
            have hM2 : Hid (New wr W31) := by show New _ _; rw [hW31]; exact (hMm.out).set hCr.out _
            rw [← hW31]
            clear hW31 a0 cz fz hc
            have a0 := hAc.out W31 hV2.out
            have hc0 := Lib.hid (hat3.out W31 hV2.out)
            have hc := Lib.hid (hhex.out W31)
            go_wp2_with (first
              | (go_at_call 34; refine hc0.out.mono ?_; rintro e w9 ⟨rfl, rfl⟩)
              | (go_at_call 37; refine hc.out.mono ?_; rintro e w22 ⟨v2, g, nn, b2, rfl, hP2, ho2, hn2⟩
                 obtain ⟨R2, c2, rfl⟩ := own_slice ho2
                 have ho2 := Lib.hid ho2
                 have hP2 := Lib.hid hP2
                 have hn2 := Lib.hid hn2
                 have hBm := Lib.hid (hB2.out.new hn2.out)
                 have hVm := Lib.hid (hV2.out.next hn2.out)
                 have hMm := Lib.hid (hM2.out.next hn2.out)
                 have cz := hBm.out.cell 7
                 have fz := hBm.out.frozen 7
                 simp [cuA] at cz))
            obtain ⟨W32, hW32⟩ : ∃ x, x = w22.setCell ⟨C, 7, none⟩ (.slice R2 nn c2) := ⟨_, rfl⟩
            have hB3 : Hid (Blk W32 C 31 (cuA 2 ⟨q1, [], x1, 0, 0, 0, R2, nn, c2⟩)) := by
              show Blk _ _ _ _
              rw [hW32]
              have h := (hBm.out).put 7 (.slice R2 nn c2)
              simpa [cuA] using h
            have hV3 : Hid (New WB W32) := by show New _ _; rw [hW32]; exact (hVm.out).set hCw.out _
            have hM3 : Hid (New wr W32) := by show New _ _; rw [hW32]; exact (hMm.out).set hCr.out _
            have hdat : Hid (RdI .u8 W32 R2 nn (fun i => (g i : Nat))) := by
              show RdI _ _ _ _ _
              rw [hW32]
              exact own_rdI (Alt.own (Alt.set (K := fun g => g = C) (Alt.refl w22) (.inl rfl) _) ho2.out fun g hg e => by
                subst e
                exact own_ne_blk ho2.out hBm.out (by decide) hg) (by have := hP2.out.1.2; have := hl3.out; unfold maxLen; omega)
            have hblk : Hid (∀ b off, R2 = some ⟨b, off, none⟩ → wr.heap.size ≤ b) := fun b off h => by
              subst h
              exact Nat.le_trans hM2.out.size (ho2.out.lt b rfl).1
            go_meet
            show CandM wr C i P _
            rw [← hW32]
            have hi' : i = 1 := by have := hi.out; omega
            subst hi'
            refine ⟨⟨q1, [], x1, 0, 0, 0, R2, nn, c2⟩, g, fun j => [goodN (P.getD 1 []), b1, b2].getD j true, hB3.out, BdC.ok (c := ⟨q1, [], x1, 0, 0, 0, R2, nn, c2⟩) ⟨hP1.out.1.1, hP1.out.1.2, z0, z1, z0, z1, z0, z1⟩ hl1.out (Nat.zero_le _) hdat.out (Nat.le_trans hP2.out.1.2 hl3.out), hP2.out.1.1, ⟨fun j h => ?_, fun t ht => ?_⟩, hM3.out, hblk.out⟩
            · have hlen : (wordK 1).2.length = 3 := rfl
              match j, h with
              | 0, _ => exact ⟨hq1.out, rfl⟩
              | 1, _ => exact (hq2.out ▸ hP1.out)
              | 2, _ => exact (hq3.out ▸ hP2.out)
              | j + 3, h => exact absurd h (by rw [hlen]; omega)
            · rcases ht with rfl | rfl | rfl | rfl | rfl | rfl | rfl <;> first | exact .inl (by decide) | exact .inr rfl)
        · as_aux_lemma => (
            skip
            have hB0 : Hid (Blk W5 C 31 (cuA 3 ⟨[], [], 0, 0, 0, 0, none, 0, 0⟩)) := hb5.out
            have hM0 := Lib.hid hN5r.out
            have hV0 := Lib.hid hN5.out
            go_upto_region 17 with fail
            have a0 := hAc.out W5 hV0.out
            have cz := hB0.out.cell 1
            have fz := hB0.out.frozen 1
            simp [cuA] at cz
            have hc := Lib.hid (hat1.out W5 hV0.out)
            go_upto_region 18 with (go_at_call 34; refine hc.out.mono ?_; rintro e w9 ⟨rfl, rfl⟩)
            obtain ⟨W30, hW30⟩ : ∃ x, x = W5.setCell ⟨C, 1, none⟩ (encStr q1) := ⟨_, rfl⟩
            have hB1 : Hid (Blk W30 C 31 (cuA 3 ⟨q1, [], 0, 0, 0, 0, none, 0, 0⟩)) := by
              show Blk _ _ _ _
              rw [hW30]
              have h := (hB0.out).put 1 (encStr q1)
              simpa [cuA] using h
            have hV1 : Hid (New WB W30) := by show New _ _; rw [hW30]; exact (hV0.out).set hCw.out _
            have hM1 : Hid (New wr W30) := by show New _ _; rw [hW30]; exact (hM0.out).set hCr.out _
            rw [← hW30]
            clear hW30 a0 cz fz hc
            have a0 := hAc.out W30 hV1.out
            have hc := Lib.hid (hnum2.out W30 hV1.out)
            go_upto_region 19 with (first
              | (go_at_call 35; refine hc.out.mono ?_; rintro e w21 ⟨x1, b1, rfl, hP1, hn2⟩
                 have hP1 := Lib.hid hP1
                 have hn2 := Lib.hid hn2
                 have hBm := Lib.hid (hB1.out.new hn2.out)
                 have hVm := Lib.hid (hV1.out.next hn2.out)
                 have hMm := Lib.hid (hM1.out.next hn2.out)
                 have cz := hBm.out.cell 3
                 have fz := hBm.out.frozen 3
                 simp [cuA] at cz))
            obtain ⟨W31, hW31⟩ : ∃ x, x = w21.setCell ⟨C, 3, none⟩ (.int .i64 x1) := ⟨_, rfl⟩
            have hB2 : Hid (Blk W31 C 31 (cuA 3 ⟨q1, [], x1, 0, 0, 0, none, 0, 0⟩)) := by
              show Blk _ _ _ _
              rw [hW31]
              have h := (hBm.out).put 3 (.int .i64 x1)
              simpa [cuA] using h
            have hV2 : Hid (New WB W31) := by show New _ _; rw [hW31]; exact (hVm.out).set hCw.out _
            have hM2 : Hid (New wr W31) := by show New _ _; rw [hW31]; exact (hMm.out).set hCr.out _
            rw [← hW31]
            clear hW31 a0 cz fz hc
            have a0 := hAc.out W31 hV2.out
            have hc := Lib.hid (hnum3.out W31 hV2.out)
            go_wp2_with (first
              | (go_at_call 35; refine hc.out.mono ?_; rintro e w22 ⟨x2, b2, rfl, hP2, hn2⟩
                 have hP2 := Lib.hid hP2
                 have hn2 := Lib.hid hn2
                 have hBm := Lib.hid (hB2.out.new hn2.out)
                 have hVm := Lib.hid (hV2.out.next hn2.out)
                 have hMm := Lib.hid (hM2.out.next hn2.out)
                 have cz := hBm.out.cell 4
                 have fz := hBm.out.frozen 4
                 simp [cuA] at cz))
            obtain ⟨W32, hW32⟩ : ∃ x, x = w22.setCell ⟨C, 4, none⟩ (.int .i64 x2) := ⟨_, rfl⟩
            have hB3 : Hid (Blk W32 C 31 (cuA 3 ⟨q1, [], x1, x2, 0, 0, none, 0, 0⟩)) := by
              show Blk _ _ _ _
              rw [hW32]
              have h := (hBm.out).put 4 (.int .i64 x2)
              simpa [cuA] using h
            have hV3 : Hid (New WB W32) := by show New _ _; rw [hW32]; exact (hVm.out).set hCw.out _
            have hM3 : Hid (New wr W32) := by show New _ _; rw [hW32]; exact (hMm.out).set hCr.out _
            go_meet
            show CandM wr C i P _
            rw [← hW32]
            have hi' : i = 2 := by have := hi.out; omega
            subst hi'
            refine ⟨⟨q1, [], x1, x2, 0, 0, none, 0, 0⟩, fun _ => 0, fun j => [goodN (P.getD 1 []), b1, b2].getD j true, hB3.out, BdC.ok (c := ⟨q1, [], x1, x2, 0, 0, none, 0, 0⟩) ⟨hP1.out.1.1, hP1.out.1.2, hP2.out.1.1, hP2.out.1.2, z0, z1, z0, z1⟩ hl1.out (Nat.zero_le _) (rdI_nil _ _) (Nat.zero_le _), fun _ => by show 0 < 256; decide, ⟨fun j h => ?_, fun t ht => ?_⟩, hM3.out, fun b off h => by cases h⟩
            · have hlen : (wordK 2).2.length = 3 := rfl
              match j, h with
              | 0, _ => exact ⟨hq1.out, rfl⟩
              | 1, _ => exact (hq2.out ▸ hP1.out)
              | 2, _ => exact (hq3.out ▸ hP2.out)
              | j + 3, h => exact absurd h (by rw [hlen]; omega)
            · rcases ht with rfl | rfl | rfl | rfl | rfl | rfl | rfl <;> first | exact .inl (by decide) | exact .inr rfl)
        · as_aux_lemma => (
            skip
            have hB0 : Hid (Blk W5 C 31 (cuA 4 ⟨[], [], 0, 0, 0, 0, none, 0, 0⟩)) := hb5.out
            have hM0 := Lib.hid hN5r.out
            have hV0 := Lib.hid hN5.out
            go_upto_region 21 with fail
            have a0 := hAc.out W5 hV0.out
            have cz := hB0.out.cell 1
            have fz := hB0.out.frozen 1
            simp [cuA] at cz
            have hc := Lib.hid (hat1.out W5 hV0.out)
            go_upto_region 22 with (go_at_call 34; refine hc.out.mono ?_; rintro e w9 ⟨rfl, rfl⟩)
            obtain ⟨W30, hW30⟩ : ∃ x, x = W5.setCell ⟨C, 1, none⟩ (encStr q1) := ⟨_, rfl⟩
            have hB1 : Hid (Blk W30 C 31 (cuA 4 ⟨q1, [], 0, 0, 0, 0, none, 0, 0⟩)) := by
              show Blk _ _ _ _
              rw [hW30]
              have h := (hB0.out).put 1 (encStr q1)
              simpa [cuA] using h
            have hV1 : Hid (New WB W30) := by show New _ _; rw [hW30]; exact (hV0.out).set hCw.out _
            have hM1 : Hid (New wr W30) := by show New _ _; rw [hW30]; exact (hM0.out).set hCr.out _
            rw [← hW30]
            clear hW30 a0 cz fz hc
            have a0 := hAc.out W30 hV1.out
            have hc := Lib.hid (hnum2.out W30 hV1.out)
            go_wp2_with (first
              | (go_at_call 35; refine hc.out.mono ?_; rintro e w21 ⟨x1, b1, rfl, hP1, hn2⟩
                 have hP1 := Lib.hid hP1
                 have hn2 := Lib.hid hn2
                 have hBm := Lib.hid (hB1.out.new hn2.out)
                 have hVm := Lib.hid (hV1.out.next hn2.out)
                 have hMm := Lib.hid (hM1.out.next hn2.out)
                 have cz := hBm.out.cell 4
                 have fz := hBm.out.frozen 4
                 simp [cuA] at cz))
            obtain ⟨W31, hW31⟩ : ∃ x, x = w21.setCell ⟨C, 4, none⟩ (.int .i64 x1) := ⟨_, rfl⟩
            have hB2 : Hid (Blk W31 C 31 (cuA 4 ⟨q1, [], 0, x1, 0, 0, none, 0, 0⟩)) := by
              show Blk _ _ _ _
              rw [hW31]
              have h := (hBm.out).put 4 (.int .i64 x1)
              simpa [cuA] using h
            have hV2 : Hid (New WB W31) := by show New _ _; rw [hW31]; exact (hVm.out).set hCw.out _
            have hM2 : Hid (New wr W31) := by show New _ _; rw [hW31]; exact (hMm.out).set hCr.out _
            go_meet
            show CandM wr C i P _
            rw [← hW31]
            have hi' : i = 3 := by have := hi.out; omega
            subst hi'
            refine ⟨⟨q1, [], 0, x1, 0, 0, none, 0, 0⟩, fun _ => 0, fun j => [goodN (P.getD 1 []), b1].getD j true, hB2.out, BdC.ok (c := ⟨q1, [], 0, x1, 0, 0, none, 0, 0⟩) ⟨z0, z1, hP1.out.1.1, hP1.out.1.2, z0, z1, z0, z1⟩ hl1.out (Nat.zero_le _) (rdI_nil _ _) (Nat.zero_le _), fun _ => by show 0 < 256; decide, ⟨fun j h => ?_, fun t ht => ?_⟩, hM2.out, fun b off h => by cases h⟩
            · have hlen : (wordK 3).2.length = 2 := rfl
              match j, h with
              | 0, _ => exact ⟨hq1.out, rfl⟩
              | 1, _ => exact (hq2.out ▸ hP1.out)
              | j + 2, h => exact absurd h (by rw [hlen]; omega)
            · rcases ht with rfl | rfl | rfl | rfl | rfl | rfl | rfl <;> first | exact .inl (by decide) | exact .inr rfl)
        · as_aux_lemma => (
            skip
            have hB0 : Hid (Blk W5 C 31 (cuA 5 ⟨[], [], 0, 0, 0, 0, none, 0, 0⟩)) := hb5.out
            have hM0 := Lib.hid hN5r.out
            have hV0 := Lib.hid hN5.out
            go_upto_region 11 with fail
            have a0 := hAc.out W5 hV0.out
            have cz := hB0.out.cell 1
            have fz := hB0.out.frozen 1
            simp [cuA] at cz
            have hc := Lib.hid (hat1.out W5 hV0.out)
            go_wp2_with (go_at_call 34; refine hc.out.mono ?_; rintro e w9 ⟨rfl, rfl⟩)
            obtain ⟨W30, hW30⟩ : ∃ x, x = W5.setCell ⟨C, 1, none⟩ (encStr q1) := ⟨_, rfl⟩
            have hB1 : Hid (Blk W30 C 31 (cuA 5 ⟨q1, [], 0, 0, 0, 0, none, 0, 0⟩)) := by
              show Blk _ _ _ _
              rw [hW30]
              have h := (hB0.out).put 1 (encStr q1)
              simpa [cuA] using h
            have hV1 : Hid (New WB W30) := by show New _ _; rw [hW30]; exact (hV0.out).set hCw.out _
            have hM1 : Hid (New wr W30) := by show New _ _; rw [hW30]; exact (hM0.out).set hCr.out _
            go_meet
            show CandM wr C i P _
            rw [← hW30]
            have hi' : i = 4 := by have := hi.out; omega
            subst hi'
            refine ⟨⟨q1, [], 0, 0, 0, 0, none, 0, 0⟩, fun _ => 0, fun j => [goodN (P.getD 1 [])].getD j true, hB1.out, BdC.ok (c := ⟨q1, [], 0, 0, 0, 0, none, 0, 0⟩) ⟨z0, z1, z0, z1, z0, z1, z0, z1⟩ hl1.out (Nat.zero_le _) (rdI_nil _ _) (Nat.zero_le _), fun _ => by show 0 < 256; decide, ⟨fun j h => ?_, fun t ht => ?_⟩, hM1.out, fun b off h => by cases h⟩
            · have hlen : (wordK 4).2.length = 1 := rfl
              match j, h with
              | 0, _ => exact ⟨hq1.out, rfl⟩
              | j + 1, h => exact absurd h (by rw [hlen]; omega)
            · rcases ht with rfl | rfl | rfl | rfl | rfl | rfl | rfl <;> first | exact .inl (by decide) | exact .inr rfl)
        · as_aux_lemma => (
            skip
            have hfin : Hid (CandM wr C i P W5) := by
              have hi' : i = 5 := by have := hi.out; omega
              subst hi'
              exact ⟨zC, fun _ => 0, fun _ => true, hb5.out, BdC.ok ⟨by decide, by decide, by decide, by decide, by decide, by decide, by decide, by decide⟩ (Nat.zero_le _) (Nat.zero_le _) (rdI_nil _ _) (Nat.zero_le _), fun _ => by show 0 < 256; decide, ⟨fun j h => absurd h (Nat.not_lt_zero j), fun t ht => .inr (zC_zero t ht)⟩, hN5r.out, fun b off h => by cases h⟩
            go_wp2
            go_meet
            exact hfin)
        · as_aux_lemma => (
            skip
            have hB0 : Hid (Blk W5 C 31 (cuA 7 ⟨[], [], 0, 0, 0, 0, none, 0, 0⟩)) := hb5.out
            have hM0 := Lib.hid hN5r.out
            have hV0 := Lib.hid hN5.out
            go_upto_region 26 with fail
            have a0 := hAc.out W5 hV0.out
            have cz := hB0.out.cell 2
            have fz := hB0.out.frozen 2
            simp [cuA] at cz
            have hc := Lib.hid (hat1.out W5 hV0.out)
            go_wp2_with (go_at_call 34; refine hc.out.mono ?_; rintro e w9 ⟨rfl, rfl⟩)
            obtain ⟨W30, hW30⟩ : ∃ x, x = W5.setCell ⟨C, 2, none⟩ (encStr q1) := ⟨_, rfl⟩
            have hB1 : Hid (Blk W30 C 31 (cuA 7 ⟨[], q1, 0, 0, 0, 0, none, 0, 0⟩)) := by
              show Blk _ _ _ _
              rw [hW30]
              have h := (hB0.out).put 2 (encStr q1)
              simpa [cuA] using h
            have hV1 : Hid (New WB W30) := by show New _ _; rw [hW30]; exact (hV0.out).set hCw.out _
            have hM1 : Hid (New wr W30) := by show New _ _; rw [hW30]; exact (hM0.out).set hCr.out _
            go_meet
            show CandM wr C i P _
            rw [← hW30]
            have hi' : i = 6 := by have := hi.out; omega
            subst hi'
            refine ⟨⟨[], q1, 0, 0, 0, 0, none, 0, 0⟩, fun _ => 0, fun j => [goodN (P.getD 1 [])].getD j true, hB1.out, BdC.ok (c := ⟨[], q1, 0, 0, 0, 0, none, 0, 0⟩) ⟨z0, z1, z0, z1, z0, z1, z0, z1⟩ (Nat.zero_le _) hl1.out (rdI_nil _ _) (Nat.zero_le _), fun _ => by show 0 < 256; decide, ⟨fun j h => ?_, fun t ht => ?_⟩, hM1.out, fun b off h => by cases h⟩
            · have hlen : (wordK 6).2.length = 1 := rfl
              match j, h with
              | 0, _ => exact ⟨hq1.out, rfl⟩
              | j + 1, h => exact absurd h (by rw [hlen]; omega)
            · rcases ht with rfl | rfl | rfl | rfl | rfl | rfl | rfl <;> first | exact .inl (by decide) | exact .inr rfl)
        · as_aux_lemma => (
            skip
            have hB0 : Hid (Blk W5 C 31 (cuA 8 ⟨[], [], 0, 0, 0, 0, none, 0, 0⟩)) := hb5.out
            have hM0 := Lib.hid hN5r.out
            have hV0 := Lib.hid hN5.out
            go_upto_region 28 with fail
            have a0 := hAc.out W5 hV0.out
            have cz := hB0.out.cell 2
            have fz := hB0.out.frozen 2
            simp [cuA] at cz
            have hc := Lib.hid (hat1.out W5 hV0.out)
            go_upto_region 29 with (go_at_call 34; refine hc.out.mono ?_; rintro e w9 ⟨rfl, rfl⟩)
            obtain ⟨W30, hW30⟩ : ∃ x, x = W5.setCell ⟨C, 2, none⟩ (encStr q1) := ⟨_, rfl⟩
            have hB1 : Hid (Blk W30 C 31 (cuA 8 ⟨[], q1, 0, 0, 0, 0, none, 0, 0⟩)) := by
              show Blk _ _ _ _
              rw [hW30]
              have h := (hB0.out).put 2 (encStr q1)
              simpa [cuA] using h
            have hV1 : Hid (New WB W30) := by show New _ _; rw [hW30]; exact (hV0.out).set hCw.out _
            have hM1 : Hid (New wr W30) := by show New _ _; rw [hW30]; exact (hM0.out).set hCr.out _
            rw [← hW30]
            clear hW30 a0 cz fz hc
            have a0 := hAc.out W30 hV1.out
            have cz := hB1.out.cell 1
            have fz := hB1.out.frozen 1
            simp [cuA] at cz
            have hc := Lib.hid (hat2.out W30 hV1.out)
            go_upto_region 30 with (go_at_call 34; refine hc.out.mono ?_; rintro e w9 ⟨rfl, rfl⟩)
            obtain ⟨W31, hW31⟩ : ∃ x, x = W30.setCell ⟨C, 1, none⟩ (encStr q2) := ⟨_, rfl⟩
            have hB2 : Hid (Blk W31 C 31 (cuA 8 ⟨q2, q1, 0, 0, 0, 0, none, 0, 0⟩)) := by
              show Blk _ _ _ _
              rw [hW31]
              have h := (hB1.out).put 1 (encStr q2)
              simpa [cuA] using h
            have hV2 : Hid (New WB W31) := by show New _ _; rw [hW31]; exact (hV1.out).set hCw.out _
            have hM2 : Hid (New wr W31) := by show New _ _; rw [hW31]; exact (hM1.out).set hCr.out _
            rw [← hW31]
            clear hW31 a0 cz fz hc
            have a0 := hAc.out W31 hV2.out
            have hc := Lib.hid (hnum3.out W31 hV2.out)
            go_upto_region 31 with (first
              | (go_at_call 35; refine hc.out.mono ?_; rintro e w22 ⟨x2, b2, rfl, hP2, hn2⟩
                 have hP2 := Lib.hid hP2
                 have hn2 := Lib.hid hn2
                 have hBm := Lib.hid (hB2.out.new hn2.out)
                 have hVm := Lib.hid (hV2.out.next hn2.out)
                 have hMm := Lib.hid (hM2.out.next hn2.out)
                 have cz := hBm.out.cell 3
                 have fz := hBm.out.frozen 3
                 simp [cuA] at cz))
            obtain ⟨W32, hW32⟩ : ∃ x, x = w22.setCell ⟨C, 3, none⟩ (.int .i64 x2) := ⟨_, rfl⟩
            have hB3 : Hid (Blk W32 C 31 (cuA 8 ⟨q2, q1, x2, 0, 0, 0, none, 0, 0⟩)) := by
              show Blk _ _ _ _
              rw [hW32]
              have h := (hBm.out).put 3 (.int .i64 x2)
              simpa [cuA] using h
            have hV3 : Hid (New WB W32) := by show New _ _; rw [hW32]; exact (hVm.out).set hCw.out _
            have hM3 : Hid (New wr W32) := by show New _ _; rw [hW32]; exact (hMm.out).set hCr.out _
            rw [← hW32]
            clear hW32 a0 cz fz hc
            have a0 := hAc.out W32 hV3.out
            have hc := Lib.hid (hnum4.out W32 hV3.out)
            go_wp2_with (first
              | (go_at_call 35; refine hc.out.mono ?_; rintro e w23 ⟨x3, b3, rfl, hP3, hn2⟩
                 have hP3 := Lib.hid hP3
                 have hn2 := Lib.hid hn2
                 have hBm := Lib.hid (hB3.out.new hn2.out)
                 have hVm := Lib.hid (hV3.out.next hn2.out)
                 have hMm := Lib.hid (hM3.out.next hn2.out)
                 have cz := hBm.out.cell 4
                 have fz := hBm.out.frozen 4
                 simp [cuA] at cz))
            obtain ⟨W33, hW33⟩ : ∃ x, x = w23.setCell ⟨C, 4, none⟩ (.int .i64 x3) := ⟨_, rfl⟩
            have hB4 : Hid (Blk W33 C 31 (cuA 8 ⟨q2, q1, x2, x3, 0, 0, none, 0, 0⟩)) := by
              show Blk _ _ _ _
              rw [hW33]
              have h := (hBm.out).put 4 (.int .i64 x3)
              simpa [cuA] using h
            have hV4 : Hid (New WB W33) := by show New _ _; rw [hW33]; exact (hVm.out).set hCw.out _
            have hM4 : Hid (New wr W33) := by show New _ _; rw [hW33]; exact (hMm.out).set hCr.out _
            go_meet
            show CandM wr C i P _
            rw [← hW33]
            have hi' : i = 7 := by have := hi.out; omega
            subst hi'
            refine ⟨⟨q2, q1, x2, x3, 0, 0, none, 0, 0⟩, fun _ => 0, fun j => [goodN (P.getD 1 []), goodN (P.getD 2 []), b2, b3].getD j true, hB4.out, BdC.ok (c := ⟨q2, q1, x2, x3, 0, 0, none, 0, 0⟩) ⟨hP2.out.1.1, hP2.out.1.2, hP3.out.1.1, hP3.out.1.2, z0, z1, z0, z1⟩ hl2.out hl1.out (rdI_nil _ _) (Nat.zero_le _), fun _ => by show 0 < 256; decide, ⟨fun j h => ?_, fun t ht => ?_⟩, hM4.out, fun b off h => by cases h⟩
            · have hlen : (wordK 7).2.length = 4 := rfl
              match j, h with
              | 0, _ => exact ⟨hq1.out, rfl⟩
              | 1, _ => exact ⟨hq2.out, rfl⟩
              | 2, _ => exact (hq3.out ▸ hP2.out)
              | 3, _ => exact (hq4.out ▸ hP3.out)
              | j + 4, h => exact absurd h (by rw [hlen]; omega)
            · rcases ht with rfl | rfl | rfl | rfl | rfl | rfl | rfl <;> first | exact .inl (by decide) | exact .inr rfl)
        · as_aux_lemma => (
            skip
            have hB0 : Hid (Blk W5 C 31 (cuA 9 ⟨[], [], 0, 0, 0, 0, none, 0, 0⟩)) := hb5.out
            have hM0 := Lib.hid hN5r.out
            have hV0 := Lib.hid hN5.out
            go_upto_region 26 with fail
            have a0 := hAc.out W5 hV0.out
            have cz := hB0.out.cell 2
            have fz := hB0.out.frozen 2
            simp [cuA] at cz
            have hc := Lib.hid (hat1.out W5 hV0.out)
            go_wp2_with (go_at_call 34; refine hc.out.mono ?_; rintro e w9 ⟨rfl, rfl⟩)
            obtain ⟨W30, hW30⟩ : ∃ x, x = W5.setCell ⟨C, 2, none⟩ (encStr q1) := ⟨_, rfl⟩
            have hB1 : Hid (Blk W30 C 31 (cuA 9 ⟨[], q1, 0, 0, 0, 0, none, 0, 0⟩)) := by
              show Blk _ _ _ _
              rw [hW30]
              have h := (hB0.out).put 2 (encStr q1)
              simpa [cuA] using h
            have hV1 : Hid (New WB W30) := by show New _ _; rw [hW30]; exact (hV0.out).set hCw.out _
            have hM1 : Hid (New wr W30) := by show New _ _; rw [hW30]; exact (hM0.out).set hCr.out _
            go_meet
            show CandM wr C i P _
            rw [← hW30]
            have hi' : i = 8 := by have := hi.out; omega
            subst hi'
            refine ⟨⟨[], q1, 0, 0, 0, 0, none, 0, 0⟩, fun _ => 0, fun j => [goodN (P.getD 1 [])].getD j true, hB1.out, BdC.ok (c := ⟨[], q1, 0, 0, 0, 0, none, 0, 0⟩) ⟨z0, z1, z0, z1, z0, z1, z0, z1⟩ (Nat.zero_le _) hl1.out (rdI_nil _ _) (Nat.zero_le _), fun _ => by show 0 < 256; decide, ⟨fun j h => ?_, fun t ht => ?_⟩, hM1.out, fun b off h => by cases h⟩
            · have hlen : (wordK 8).2.length = 1 := rfl
              match j, h with
              | 0, _ => exact ⟨hq1.out, rfl⟩
              | j + 1, h => exact absurd h (by rw [hlen]; omega)
            · rcases ht with rfl | rfl | rfl | rfl | rfl | rfl | rfl <;> first | exact .inl (by decide) | exact .inr rfl)
        · as_aux_lemma => (
            skip
            have hB0 : Hid (Blk W5 C 31 (cuA 10 ⟨[], [], 0, 0, 0, 0, none, 0, 0⟩)) := hb5.out
            have hM0 := Lib.hid hN5r.out
            have hV0 := Lib.hid hN5.out
            go_upto_region 26 with fail
            have a0 := hAc.out W5 hV0.out
            have cz := hB0.out.cell 2
            have fz := hB0.out.frozen 2
            simp [cuA] at cz
            have hc := Lib.hid (hat1.out W5 hV0.out)
            go_wp2_with (go_at_call 34; refine hc.out.mono ?_; rintro e w9 ⟨rfl, rfl⟩)
            obtain ⟨W30, hW30⟩ : ∃ x, x = W5.setCell ⟨C, 2, none⟩ (encStr q1) := ⟨_, rfl⟩
            have hB1 : Hid (Blk W30 C 31 (cuA 10 ⟨[], q1, 0, 0, 0, 0, none, 0, 0⟩)) := by
              show Blk _ _ _ _
              rw [hW30]
              have h := (hB0.out).put 2 (encStr q1)
              simpa [cuA] using h
            have hV1 : Hid (New WB W30) := by show New _ _; rw [hW30]; exact (hV0.out).set hCw.out _
            have hM1 : Hid (New wr W30) := by show New _ _; rw [hW30]; exact (hM0.out).set hCr.out _
            go_meet
            show CandM wr C i P _
            rw [← hW30]
            have hi' : i = 9 := by have := hi.out; omega
            subst hi'
            refine ⟨⟨[], q1, 0, 0, 0, 0, none, 0, 0⟩, fun _ => 0, fun j => [goodN (P.getD 1 [])].getD j true, hB1.out, BdC.ok (c := ⟨[], q1, 0, 0, 0, 0, none, 0, 0⟩) ⟨z0, z1, z0, z1, z0, z1, z0, z1⟩ (Nat.zero_le _) hl1.out (rdI_nil _ _) (Nat.zero_le _), fun _ => by show 0 < 256; decide, ⟨fun j h => ?_, fun t ht => ?_⟩, hM1.out, fun b off h => by cases h⟩
            · have hlen : (wordK 9).2.length = 1 := rfl
              match j, h with
              | 0, _ => exact ⟨hq1.out, rfl⟩
              | j + 1, h => exact absurd h (by rw [hlen]; omega)
            · rcases ht with rfl | rfl | rfl | rfl | rfl | rfl | rfl <;> first | exact .inl (by decide) | exact .inr rfl)
        · as_aux_lemma => (
            skip
            have hfin : Hid (CandM wr C i P W5) := by
              have hi' : i = 10 := by have := hi.out; omega
              subst hi'
              exact ⟨zC, fun _ => 0, fun _ => true, hb5.out, BdC.ok ⟨by decide, by decide, by decide, by decide, by decide, by decide, by decide, by decide⟩ (Nat.zero_le _) (Nat.zero_le _) (rdI_nil _ _) (Nat.zero_le _), fun _ => by show 0 < 256; decide, ⟨fun j h => absurd h (Nat.not_lt_zero j), fun t ht => .inr (zC_zero t ht)⟩, hN5r.out, fun b off h => by cases h⟩
            go_wp2
            go_meet
            exact hfin)
        · as_aux_lemma => (
            skip
            have hfin : Hid (CandM wr C i P W5) := by
              have hi' : i = 11 := by have := hi.out; omega
              subst hi'
              exact ⟨zC, fun _ => 0, fun _ => true, hb5.out, BdC.ok ⟨by decide, by decide, by decide, by decide, by decide, by decide, by decide, by decide⟩ (Nat.zero_le _) (Nat.zero_le _) (rdI_nil _ _) (Nat.zero_le _), fun _ => by show 0 < 256; decide, ⟨fun j h => absurd h (Nat.not_lt_zero j), fun t ht => .inr (zC_zero t ht)⟩, hN5r.out, fun b off h => by cases h⟩
            go_wp2
            go_meet
            exact hfin)
        · as_aux_lemma => (
            skip
            have hB0 : Hid (Blk W5 C 31 (cuA 13 ⟨[], [], 0, 0, 0, 0, none, 0, 0⟩)) := hb5.out
            have hM0 := Lib.hid hN5r.out
            have hV0 := Lib.hid hN5.out
            go_upto_region 33 with fail
            have a0 := hAc.out W5 hV0.out
            have hc := Lib.hid (hnum1.out W5 hV0.out)
            go_wp2_with (first
              | (go_at_call 35; refine hc.out.mono ?_; rintro e w20 ⟨x0, b0, rfl, hP0, hn2⟩
                 have hP0 := Lib.hid hP0
                 have hn2 := Lib.hid hn2
                 have hBm := Lib.hid (hB0.out.new hn2.out)
                 have hVm := Lib.hid (hV0.out.next hn2.out)
                 have hMm := Lib.hid (hM0.out.next hn2.out)
                 have cz := hBm.out.cell 6
                 have fz := hBm.out.frozen 6
                 simp [cuA] at cz))
            obtain ⟨W30, hW30⟩ : ∃ x, x = w20.setCell ⟨C, 6, none⟩ (.int .i64 x0) := ⟨_, rfl⟩
            have hB1 : Hid (Blk W30 C 31 (cuA 13 ⟨[], [], 0, 0, 0, x0, none, 0, 0⟩)) := by
              show Blk _ _ _ _
              rw [hW30]
              have h := (hBm.out).put 6 (.int .i64 x0)
              simpa [cuA] using h
            have hV1 : Hid (New WB W30) := by show New _ _; rw [hW30]; exact (hVm.out).set hCw.out _
            have hM1 : Hid (New wr W30) := by show New _ _; rw [hW30]; exact (hMm.out).set hCr.out _
            go_meet
            show CandM wr C i P _
            rw [← hW30]
            have hi' : i = 12 := by have := hi.out; omega
            subst hi'
            refine ⟨⟨[], [], 0, 0, 0, x0, none, 0, 0⟩, fun _ => 0, fun j => [b0].getD j true, hB1.out, BdC.ok (c := ⟨[], [], 0, 0, 0, x0, none, 0, 0⟩) ⟨z0, z1, z0, z1, z0, z1, hP0.out.1.1, hP0.out.1.2⟩ (Nat.zero_le _) (Nat.zero_le _) (rdI_nil _ _) (Nat.zero_le _), fun _ => by show 0 < 256; decide, ⟨fun j h => ?_, fun t ht => ?_⟩, hM1.out, fun b off h => by cases h⟩
            · have hlen : (wordK 12).2.length = 1 := rfl
              match j, h with
              | 0, _ => exact (hq1.out ▸ hP0.out)
              | j + 1, h => exact absurd h (by rw [hlen]; omega)
            · rcases ht with rfl | rfl | rfl | rfl | rfl | rfl | rfl <;> first | exact .inl (by decide) | exact .inr rfl)
        · as_aux_lemma => (
            skip
            have hB0 : Hid (Blk W5 C 31 (cuA 14 ⟨[], [], 0, 0, 0, 0, none, 0, 0⟩)) := hb5.out
            have hM0 := Lib.hid hN5r.out
            have hV0 := Lib.hid hN5.out
            go_upto_region 36 with fail
            have a0 := hAc.out W5 hV0.out
            have hc := Lib.hid (hnum1.out W5 hV0.out)
            go_upto_region 37 with (first
              | (go_at_call 35; refine hc.out.mono ?_; rintro e w20 ⟨x0, b0, rfl, hP0, hn2⟩
                 have hP0 := Lib.hid hP0
                 have hn2 := Lib.hid hn2
                 have hBm := Lib.hid (hB0.out.new hn2.out)
                 have hVm := Lib.hid (hV0.out.next hn2.out)
                 have hMm := Lib.hid (hM0.out.next hn2.out)
                 have cz := hBm.out.cell 4
                 have fz := hBm.out.frozen 4
                 simp [cuA] at cz))
            obtain ⟨W30, hW30⟩ : ∃ x, x = w20.setCell ⟨C, 4, none⟩ (.int .i64 x0) := ⟨_, rfl⟩
            have hB1 : Hid (Blk W30 C 31 (cuA 14 ⟨[], [], 0, x0, 0, 0, none, 0, 0⟩)) := by
              show Blk _ _ _ _
              rw [hW30]
              have h := (hBm.out).put 4 (.int .i64 x0)
              simpa [cuA] using h
            have hV1 : Hid (New WB W30) := by show New _ _; rw [hW30]; exact (hVm.out).set hCw.out _
            have hM1 : Hid (New wr W30) := by show New _ _; rw [hW30]; exact (hMm.out).set hCr.out _
            rw [← hW30]
            clear hW30 a0 cz fz hc
            have a0 := hAc.out W30 hV1.out
            have hc := Lib.hid (hnum2.out W30 hV1.out)
            go_wp2_with (first
              | (go_at_call 35; refine hc.out.mono ?_; rintro e w21 ⟨x1, b1, rfl, hP1, hn2⟩
                 have hP1 := Lib.hid hP1
                 have hn2 := Lib.hid hn2
                 have hBm := Lib.hid (hB1.out.new hn2.out)
                 have hVm := Lib.hid (hV1.out.next hn2.out)
                 have hMm := Lib.hid (hM1.out.next hn2.out)
                 have cz := hBm.out.cell 6
                 have fz := hBm.out.frozen 6
                 simp [cuA] at cz))
            obtain ⟨W31, hW31⟩ : ∃ x, x = w21.setCell ⟨C, 6, none⟩ (.int .i64 x1) := ⟨_, rfl⟩
            have hB2 : Hid (Blk W31 C 31 (cuA 14 ⟨[], [], 0, x0, 0, x1, none, 0, 0⟩)) := by
              show Blk _ _ _ _
              rw [hW31]
              have h := (hBm.out).put 6 (.int .i64 x1)
              simpa [cuA] using h
            have hV2 : Hid (New WB W31) := by show New _ _; rw [hW31]; exact (hVm.out).set hCw.out _
            have hM2 : Hid (New wr W31) := by show New _ _; rw [hW31]; exact (hMm.out).set hCr.out _
            go_meet
            show CandM wr C i P _
            rw [← hW31]
            have hi' : i = 13 := by have := hi.out; omega
            subst hi'
            refine ⟨⟨[], [], 0, x0, 0, x1, none, 0, 0⟩, fun _ => 0, fun j => [b0, b1].getD j true, hB2.out, BdC.ok (c := ⟨[], [], 0, x0, 0, x1, none, 0, 0⟩) ⟨z0, z1, hP0.out.1.1, hP0.out.1.2, z0, z1, hP1.out.1.1, hP1.out.1.2⟩ (Nat.zero_le _) (Nat.zero_le _) (rdI_nil _ _) (Nat.zero_le _), fun _ => by show 0 < 256; decide, ⟨fun j h => ?_, fun t ht => ?_⟩, hM2.out, fun b off h => by cases h⟩
            · have hlen : (wordK 13).2.length = 2 := rfl
              match j, h with
              | 0, _ => exact (hq1.out ▸ hP0.out)
              | 1, _ => exact (hq2.out ▸ hP1.out)
              | j + 2, h => exact absurd h (by rw [hlen]; omega)
            · rcases ht with rfl | rfl | rfl | rfl | rfl | rfl | rfl <;> first | exact .inl (by decide) | exact .inr rfl)
        · as_aux_lemma => (
            skip
            have hB0 : Hid (Blk W5 C 31 (cuA 15 ⟨[], [], 0, 0, 0, 0, none, 0, 0⟩)) := hb5.out
            have hM0 := Lib.hid hN5r.out
            have hV0 := Lib.hid hN5.out
            go_upto_region 39 with fail
            have a0 := hAc.out W5 hV0.out
            have hc := Lib.hid (hnum1.out W5 hV0.out)
            go_upto_region 40 with (first
              | (go_at_call 35; refine hc.out.mono ?_; rintro e w20 ⟨x0, b0, rfl, hP0, hn2⟩
                 have hP0 := Lib.hid hP0
                 have hn2 := Lib.hid hn2
                 have hBm := Lib.hid (hB0.out.new hn2.out)
                 have hVm := Lib.hid (hV0.out.next hn2.out)
                 have hMm := Lib.hid (hM0.out.next hn2.out)
                 have cz := hBm.out.cell 5
                 have fz := hBm.out.frozen 5
                 simp [cuA] at cz))
            obtain ⟨W30, hW30⟩ : ∃ x, x = w20.setCell ⟨C, 5, none⟩ (.int .i64 x0) := ⟨_, rfl⟩
            have hB1 : Hid (Blk W30 C 31 (cuA 15 ⟨[], [], 0, 0, x0, 0, none, 0, 0⟩)) := by
              show Blk _ _ _ _
              rw [hW30]
              have h := (hBm.out).put 5 (.int .i64 x0)
              simpa [cuA] using h
            have hV1 : Hid (New WB W30) := by show New _ _; rw [hW30]; exact (hVm.out).set hCw.out _
            have hM1 : Hid (New wr W30) := by show New _ _; rw [hW30]; exact (hMm.out).set hCr.out _
            rw [← hW30]
            clear hW30 a0 cz fz hc
            have a0 := hAc.out W30 hV1.out
            have hc := Lib.hid (hnum2.out W30 hV1.out)
            go_wp2_with (first
              | (go_at_call 35; refine hc.out.mono ?_; rintro e w21 ⟨x1, b1, rfl, hP1, hn2⟩
                 have hP1 := Lib.hid hP1
                 have hn2 := Lib.hid hn2
                 have hBm := Lib.hid (hB1.out.new hn2.out)
                 have hVm := Lib.hid (hV1.out.next hn2.out)
                 have hMm := Lib.hid (hM1.out.next hn2.out)
                 have cz := hBm.out.cell 3
                 have fz := hBm.out.frozen 3
                 simp [cuA] at cz))
            obtain ⟨W31, hW31⟩ : ∃ x, x = w21.setCell ⟨C, 3, none⟩ (.int .i64 x1) := ⟨_, rfl⟩
            have hB2 : Hid (Blk W31 C 31 (cuA 15 ⟨[], [], x1, 0, x0, 0, none, 0, 0⟩)) := by
              show Blk _ _ _ _
              rw [hW31]
              have h := (hBm.out).put 3 (.int .i64 x1)
              simpa [cuA] using h
            have hV2 : Hid (New WB W31) := by show New _ _; rw [hW31]; exact (hVm.out).set hCw.out _
            have hM2 : Hid (New wr W31) := by show New _ _; rw [hW31]; exact (hMm.out).set hCr.out _
            go_meet
            show CandM wr C i P _
            rw [← hW31]
            have hi' : i = 14 := by have := hi.out; omega
            subst hi'
            refine ⟨⟨[], [], x1, 0, x0, 0, none, 0, 0⟩, fun _ => 0, fun j => [b0, b1].getD j true, hB2.out, BdC.ok (c := ⟨[], [], x1, 0, x0, 0, none, 0, 0⟩) ⟨hP1.out.1.1, hP1.out.1.2, z0, z1, hP0.out.1.1, hP0.out.1.2, z0, z1⟩ (Nat.zero_le _) (Nat.zero_le _) (rdI_nil _ _) (Nat.zero_le _), fun _ => by show 0 < 256; decide, ⟨fun j h => ?_, fun t ht => ?_⟩, hM2.out, fun b off h => by cases h⟩
            · have hlen : (wordK 14).2.length = 2 := rfl
              match j, h with
              | 0, _ => exact (hq1.out ▸ hP0.out)
              | 1, _ => exact (hq2.out ▸ hP1.out)
              | j + 2, h => exact absurd h (by rw [hlen]; omega)
            · rcases ht with rfl | rfl | rfl | rfl | rfl | rfl | rfl <;> first | exact .inl (by decide) | exact .inr rfl)
        · as_aux_lemma => (
            skip
            have hB0 : Hid (Blk W5 C 31 (cuA 16 ⟨[], [], 0, 0, 0, 0, none, 0, 0⟩)) := hb5.out
            have hM0 := Lib.hid hN5r.out
            have hV0 := Lib.hid hN5.out
            go_upto_region 43 with fail
            have a0 := hAc.out W5 hV0.out
            have hc := Lib.hid (hnum1.out W5 hV0.out)
            go_wp2_with (first
              | (go_at_call 35; refine hc.out.mono ?_; rintro e w20 ⟨x0, b0, rfl, hP0, hn2⟩
                 have hP0 := Lib.hid hP0
                 have hn2 := Lib.hid hn2
                 have hBm := Lib.hid (hB0.out.new hn2.out)
                 have hVm := Lib.hid (hV0.out.next hn2.out)
                 have hMm := Lib.hid (hM0.out.next hn2.out)
                 have cz := hBm.out.cell 5
                 have fz := hBm.out.frozen 5
                 simp [cuA] at cz))
            obtain ⟨W30, hW30⟩ : ∃ x, x = w20.setCell ⟨C, 5, none⟩ (.int .i64 x0) := ⟨_, rfl⟩
            have hB1 : Hid (Blk W30 C 31 (cuA 16 ⟨[], [], 0, 0, x0, 0, none, 0, 0⟩)) := by
              show Blk _ _ _ _
              rw [hW30]
              have h := (hBm.out).put 5 (.int .i64 x0)
              simpa [cuA] using h
            have hV1 : Hid (New WB W30) := by show New _ _; rw [hW30]; exact (hVm.out).set hCw.out _
            have hM1 : Hid (New wr W30) := by show New _ _; rw [hW30]; exact (hMm.out).set hCr.out _
            go_meet
            show CandM wr C i P _
            rw [← hW30]
            have hi' : i = 15 := by have := hi.out; omega
            subst hi'
            refine ⟨⟨[], [], 0, 0, x0, 0, none, 0, 0⟩, fun _ => 0, fun j => [b0].getD j true, hB1.out, BdC.ok (c := ⟨[], [], 0, 0, x0, 0, none, 0, 0⟩) ⟨z0, z1, z0, z1, hP0.out.1.1, hP0.out.1.2, z0, z1⟩ (Nat.zero_le _) (Nat.zero_le _) (rdI_nil _ _) (Nat.zero_le _), fun _ => by show 0 < 256; decide, ⟨fun j h => ?_, fun t ht => ?_⟩, hM1.out, fun b off h => by cases h⟩
            · have hlen : (wordK 15).2.length = 1 := rfl
              match j, h with
              | 0, _ => exact (hq1.out ▸ hP0.out)
              | j + 1, h => exact absurd h (by rw [hlen]; omega)
            · rcases ht with rfl | rfl | rfl | rfl | rfl | rfl | rfl <;> first | exact .inl (by decide) | exact .inr rfl)
        · as_aux_lemma => (
            skip
            have hB0 : Hid (Blk W5 C 31 (cuA 17 ⟨[], [], 0, 0, 0, 0, none, 0, 0⟩)) := hb5.out
            have hM0 := Lib.hid hN5r.out
            have hV0 := Lib.hid hN5.out
            go_upto_region 43 with fail
            have a0 := hAc.out W5 hV0.out
            have hc := Lib.hid (hnum1.out W5 hV0.out)
            go_wp2_with (first
              | (go_at_call 35; refine hc.out.mono ?_; rintro e w20 ⟨x0, b0, rfl, hP0, hn2⟩
                 have hP0 := Lib.hid hP0
                 have hn2 := Lib.hid hn2
                 have hBm := Lib.hid (hB0.out.new hn2.out)
                 have hVm := Lib.hid (hV0.out.next hn2.out)
                 have hMm := Lib.hid (hM0.out.next hn2.out)
                 have cz := hBm.out.cell 5
                 have fz := hBm.out.frozen 5
                 simp [cuA] at cz))
            obtain ⟨W30, hW30⟩ : ∃ x, x = w20.setCell ⟨C, 5, none⟩ (.int .i64 x0) := ⟨_, rfl⟩
            have hB1 : Hid (Blk W30 C 31 (cuA 17 ⟨[], [], 0, 0, x0, 0, none, 0, 0⟩)) := by
              show Blk _ _ _ _
              rw [hW30]
              have h := (hBm.out).put 5 (.int .i64 x0)
              simpa [cuA] using h
            have hV1 : Hid (New WB W30) := by show New _ _; rw [hW30]; exact (hVm.out).set hCw.out _
            have hM1 : Hid (New wr W30) := by show New _ _; rw [hW30]; exact (hMm.out).set hCr.out _
            go_meet
            show CandM wr C i P _
            rw [← hW30]
            have hi' : i = 16 := by have := hi.out; omega
            subst hi'
            refine ⟨⟨[], [], 0, 0, x0, 0, none, 0, 0⟩, fun _ => 0, fun j => [b0].getD j true, hB1.out, BdC.ok (c := ⟨[], [], 0, 0, x0, 0, none, 0, 0⟩) ⟨z0, z1, z0, z1, hP0.out.1.1, hP0.out.1.2, z0, z1⟩ (Nat.zero_le _) (Nat.zero_le _) (rdI_nil _ _) (Nat.zero_le _), fun _ => by show 0 < 256; decide, ⟨fun j h => ?_, fun t ht => ?_⟩, hM1.out, fun b off h => by cases h⟩
            · have hlen : (wordK 16).2.length = 1 := rfl
              match j, h with
              | 0, _ => exact (hq1.out ▸ hP0.out)
              | j + 1, h => exact absurd h (by rw [hlen]; omega)
            · rcases ht with rfl | rfl | rfl | rfl | rfl | rfl | rfl <;> first | exact .inl (by decide) | exact .inr rfl)
        · as_aux_lemma => (
            skip
            have hfin : Hid (CandM wr C i P W5) := by
              have hi' : i = 17 := by have := hi.out; omega
              subst hi'
              exact ⟨zC, fun _ => 0, fun _ => true, hb5.out, BdC.ok ⟨by decide, by decide, by decide, by decide, by decide, by decide, by decide, by decide⟩ (Nat.zero_le _) (Nat.zero_le _) (rdI_nil _ _) (Nat.zero_le _), fun _ => by show 0 < 256; decide, ⟨fun j h => absurd h (Nat.not_lt_zero j), fun t ht => .inr (zC_zero t ht)⟩, hN5r.out, fun b off h => by cases h⟩
            go_wp2
            go_meet
            exact hfin)
        · as_aux_lemma => (
            skip
            have hB0 : Hid (Blk W5 C 31 (cuA 19 ⟨[], [], 0, 0, 0, 0, none, 0, 0⟩)) := hb5.out
            have hM0 := Lib.hid hN5r.out
            have hV0 := Lib.hid hN5.out
            go_upto_region 36 with fail
            have a0 := hAc.out W5 hV0.out
            have hc := Lib.hid (hnum1.out W5 hV0.out)
            go_upto_region 37 with (first
              | (go_at_call 35; refine hc.out.mono ?_; rintro e w20 ⟨x0, b0, rfl, hP0, hn2⟩
                 have hP0 := Lib.hid hP0
                 have hn2 := Lib.hid hn2
                 have hBm := Lib.hid (hB0.out.new hn2.out)
                 have hVm := Lib.hid (hV0.out.next hn2.out)
                 have hMm := Lib.hid (hM0.out.next hn2.out)
                 have cz := hBm.out.cell 4
                 have fz := hBm.out.frozen 4
                 simp [cuA] at cz))
            obtain ⟨W30, hW30⟩ : ∃ x, x = w20.setCell ⟨C, 4, none⟩ (.int .i64 x0) := ⟨_, rfl⟩
            have hB1 : Hid (Blk W30 C 31 (cuA 19 ⟨[], [], 0, x0, 0, 0, none, 0, 0⟩)) := by
              show Blk _ _ _ _
              rw [hW30]
              have h := (hBm.out).put 4 (.int .i64 x0)
              simpa [cuA] using h
            have hV1 : Hid (New WB W30) := by show New _ _; rw [hW30]; exact (hVm.out).set hCw.out _
            have hM1 : Hid (New wr W30) := by show New _ _; rw [hW30]; exact (hMm.out).set hCr.out _
            rw [← hW30]
            clear hW30 a0 cz fz hc
            have a0 := hAc.out W30 hV1.out
            have hc := Lib.hid (hnum2.out W30 hV1.out)
            go_wp2_with (first
              | (go_at_call 35; refine hc.out.mono ?_; rintro e w21 ⟨x1, b1, rfl, hP1, hn2⟩
                 have hP1 := Lib.hid hP1
                 have hn2 := Lib.hid hn2
                 have hBm := Lib.hid (hB1.out.new hn2.out)
                 have hVm := Lib.hid (hV1.out.next hn2.out)
                 have hMm := Lib.hid (hM1.out.next hn2.out)
                 have cz := hBm.out.cell 6
                 have fz := hBm.out.frozen 6
                 simp [cuA] at cz))
            obtain ⟨W31, hW31⟩ : ∃ x, x = w21.setCell ⟨C, 6, none⟩ (.int .i64 x1) := ⟨_, rfl⟩
            have hB2 : Hid (Blk W31 C 31 (cuA 19 ⟨[], [], 0, x0, 0, x1, none, 0, 0⟩)) := by
              show Blk _ _ _ _
              rw [hW31]
              have h := (hBm.out).put 6 (.int .i64 x1)
              simpa [cuA] using h
            have hV2 : Hid (New WB W31) := by show New _ _; rw [hW31]; exact (hVm.out).set hCw.out _
            have hM2 : Hid (New wr W31) := by show New _ _; rw [hW31]; exact (hMm.out).set hCr.out _
            go_meet
            show CandM wr C i P _
            rw [← hW31]
            have hi' : i = 18 := by have := hi.out; omega
            subst hi'
            refine ⟨⟨[], [], 0, x0, 0, x1, none, 0, 0⟩, fun _ => 0, fun j => [b0, b1].getD j true, hB2.out, BdC.ok (c := ⟨[], [], 0, x0, 0, x1, none, 0, 0⟩) ⟨z0, z1, hP0.out.1.1, hP0.out.1.2, z0, z1, hP1.out.1.1, hP1.out.1.2⟩ (Nat.zero_le _) (Nat.zero_le _) (rdI_nil _ _) (Nat.zero_le _), fun _ => by show 0 < 256; decide, ⟨fun j h => ?_, fun t ht => ?_⟩, hM2.out, fun b off h => by cases h⟩
            · have hlen : (wordK 18).2.length = 2 := rfl
              match j, h with
              | 0, _ => exact (hq1.out ▸ hP0.out)
              | 1, _ => exact (hq2.out ▸ hP1.out)
              | j + 2, h => exact absurd h (by rw [hlen]; omega)
            · rcases ht with rfl | rfl | rfl | rfl | rfl | rfl | rfl <;> first | exact .inl (by decide) | exact .inr rfl)
      case rest =>
        obtain ⟨cur, f, bs, hB, hCu, hf, hCa, hNc, hbl⟩ : CandM wr C i P wc := hcut
        have hbl := Lib.hid hbl
        have hmi : (i : Int) + 1 = ((m : Nat) : Int) := by have := hi.out; omega
        rw [hmi] at hB
        have hB := Lib.hid hB
        have hCu := Lib.hid hCu
        have hf := Lib.hid hf
        have hi19 : i < 19 := by have := hi.out; omega
        have hCa := hCa
        rw [hP.out] at hCa
        have hCa := Lib.hid hCa
        have hVc := Lib.hid (hN.out.next hNc)
        obtain ⟨x, hx⟩ : ∃ x, Hid (x = (showT f ((i : Int) + 1) cur).1) := ⟨_, rfl⟩
        obtain ⟨cd, hcd⟩ : ∃ cd : Int, Hid (cd = (showT f ((i : Int) + 1) cur).2) := ⟨_, rfl⟩
        have hsh : Hid (Calls Tryd.prog 10 #[.agg (cuA (m : Nat) cur)] wc fun e w' => e = .returned (.tuple #[encStr x, .int .i64 cd]) ∧ New wc w') := by
          rw [hx.out, hcd.out, ← hmi]
          exact Shown_any ((i : Int) + 1) cur f wc hCu.out hf.out
        have hnext : Hid (showT f ((i : Int) + 1) cur ≠ (line, 0) → ∀ j, j + 1 < m + 1 → NoneAt line j) := fun h j hj => by
          by_cases e : j = i
          · subst e
            exact hCa.out.none hi19 h
          · exact hno.out j (by have := hi.out; omega)
        have hmi := Lib.hid hmi
        have x0 := hB.out.cell 0
        have x1 := hB.out.cell 1
        have x2 := hB.out.cell 2
        have x3 := hB.out.cell 3
        have x4 := hB.out.cell 4
        have x5 := hB.out.cell 5
        have x6 := hB.out.cell 6
        have x7 := hB.out.cell 7
        simp [cuA] at x0 x1 x2 x3 x4 x5 x6 x7
        have hmw : IntKind.i64.wrap ((m : Int) + 1) = ((m + 1 : Nat) : Int) := IntWalk.i64_in _ (by omega)
        clear hNc
        go_upto_region 45 with (go_at_call 10; refine hsh.out.mono ?_; rintro e w6 ⟨rfl, hn6⟩; have hn6 := Lib.hid hn6)
        clear x0 x1 x2 x3 x4 x5 x6 x7
        have hV6 := Lib.hid (hVc.out.next hn6.out)
        by_cases hc : cd = 0
        · subst hc
          have hv' := hv.out
          subst hv'
          by_cases hxl : x = line
          · have hshow : Hid (showT f ((i : Int) + 1) cur = (line, 0)) := Prod.ext (hx.out.symm.trans hxl) hcd.out.symm
            have hb6 := Lib.hid (hB.out.new hn6.out)
            have hr6 : Hid (Blk w6 w.heap.size 31 (cuA 0 zC)) := hbB.out.new hV6.out
            have hN6 := Lib.hid (hNB.out.next hV6.out)
            have x0 := hb6.out.cell 0
            have x1 := hb6.out.cell 1
            have x2 := hb6.out.cell 2
            have x3 := hb6.out.cell 3
            have x4 := hb6.out.cell 4
            have x5 := hb6.out.cell 5
            have x6 := hb6.out.cell 6
            have x7 := hb6.out.cell 7
            simp [cuA] at x0 x1 x2 x3 x4 x5 x6 x7
            have hxb : (x == line) = true := by simpa using hxl
            have hfin : Hid (RdR line w (.returned (.tuple #[.agg (cuA (m : Nat) cur), .int .i64 0])) (w6.setRow w.heap.size (cuA (m : Nat) cur))) := by
              refine ⟨(m : Nat), cur, f, 0, rfl, ⟨⟨hf.out, hCu.out.bd⟩, .inl ⟨rfl, by rw [← hmi.out]; exact hshow.out⟩⟩, ⟨?_, hCu.out.n1⟩, hN6.out.row (Nat.le_refl _) _⟩
              have hd := hCu.out.dat.new hn6.out
              refine ⟨hd.1, fun h0 => ?_⟩
              obtain ⟨b, off, hR, hb, hcs⟩ := hd.2 h0
              refine ⟨b, off, hR, by rw [size_setRow]; exact hb, fun i hi => ?_⟩
              have ha : Alt (fun g => g = w.heap.size) w6 (w6.setRow w.heap.size (cuA (m : Nat) cur)) := Alt.row (K := fun g => g = w.heap.size) (Alt.refl w6) (.inl rfl) _
              refine ha.cell (hcs i hi) ?_
              show ¬ b = w.heap.size
              have h1 := hbl.out b off hR
              have h2 : w.heap.size < wr.heap.size := hbr.out.lt
              omega
            clear hxl
            go_wp2_with (refine wpList_store_row rfl 31 _ _ rfl w.heap.size (cuA (m : Nat) cur) rfl rfl 31 (cuA 0 zC) hr6.out (by kernel_rfl) rfl (cu_one _ cur) ?_)
            exact bodyPost_ret (v := .tuple #[.agg (cuA (m : Nat) cur), .int .i64 0]) (results_cell_slot Tryd.results12 _ _ w.heap.size 31 (cuA (m : Nat) cur) _ rfl (hr6.out.row (cuA (m : Nat) cur)) Tryd.underlying31 rfl (by kernel_rfl)) rfl hfin.out
          · have hxb : (x == line) = false := by simpa using hxl
            have hnx : Hid (∀ j, j + 1 < m + 1 → NoneAt line j) := hnext.out fun h => hxl (hx.out.trans (congrArg Prod.fst h))
            clear hxl
            go_wp2
            go_roundw
            case rel => exact ⟨m + 1, rfl, by omega, by omega, hnx, hV6⟩
            case measure => simp [intOf]; omega
        · have hnx : Hid (∀ j, j + 1 < m + 1 → NoneAt line j) := hnext.out fun h => hc (hcd.out.trans (congrArg Prod.snd h))
          have hcb : (cd == 0) = false := by simpa using hc
          go_wp2
          go_roundw
          case rel => exact ⟨m + 1, rfl, by omega, by omega, hnx, hV6⟩
          case measure => simp [intOf]; omega
    · have hm : m = 20 := by omega
      subst hm
      have hnone : Hid (∀ i, i < 19 → NoneAt line i) := fun i hi => hno.out i (by omega)
      have hli : ¬ ((20 : Nat) : Int) ≤ 19 := by decide
      go_wp2_with (refine wpList_store_row rfl 31 _ _ rfl w.heap.size (cuA 0 zC) rfl rfl 31 (cuA 0 zC) hbr.out (by kernel_rfl) rfl (cu_one 0 zC) ?_)
      exact bodyPost_ret (v := .tuple #[.agg (cuA 0 zC), .int .i64 4]) (results_cell_slot Tryd.results12 _ _ w.heap.size 31 (cuA 0 zC) _ rfl (hbr.out.row (cuA 0 zC)) Tryd.underlying31 rfl (by kernel_rfl)) rfl (RdR.none hnone.out (hNr.out.row (Nat.le_refl _) _))
end Go.Proofs.YtaommipcdcncnaaDoor.desk
