/-
  Contract of the reference's ToldShown.
-/
import Derived.Test.YtaommipcdcncnaaDoorDeskTell
namespace Go.Proofs.YtaommipcdcncnaaDoor.desk
open Go.ChangeShapes Go.WideShapes Go.ChangeAt Go.RowKit Go.Proofs.YtaommipcdcncnaaDoor.kit Go.Deep
set_option linter.unusedVariables false
set_option maxRecDepth 100000
theorem tail_more (l : List Nm) {i : Nat} (h : i < l.length) : tailT (l.take (i + 1)) = tailT (l.take i) ++ (32 :: l.getD i []) := by
  rw [List.take_add_one, List.getElem?_eq_getElem h, Option.toList_some, tailT_app, tailT_one]
  congr 2
  rw [List.getD, List.getElem?_eq_getElem h]
  rfl
theorem tail_le (l : List Nm) (i : Nat) : (tailT (l.take i)).length ≤ (tailT l).length := by
  conv => rhs; rw [← List.take_append_drop i l, tailT_app, List.length_append]
  exact Nat.le_add_right _ _
/-- what stands ahead of the names -/
def headL (code size : Int) (dn : Bool) (f : Nat → Nat) (n : Nat) : Tx :=
  (if code = 0 then [111, 107] else [110, 111, 32] ++ Lib.itoa code) ++ [32] ++ (Lib.itoa size ++ [32] ++ hexT f n) ++ (if dn = true then [32, 100, 111, 110, 101] else [])
theorem told_code (code size : Int) (dn : Bool) (A : Option Addr) (n c : Nat) (f : Nat → Nat) (B : Option Addr) (e : Nat) (l : List Nm) (w : World) (hT : ToldOk w code size A n f B e l) (hc : code < 0) :
    Calls Tryd.prog 8 #[.agg #[.int .i64 code, .bool dn, .int .i64 size, .slice A n c, .slice B l.length e]] w (TlP code size dn f n l w) := by
  have hbad : Hid (badT code size l = true) := by show _ = _; unfold badT; rw [decide_eq_true hc]; rfl
  have hTH := Lib.hid hT
  obtain ⟨k, hk⟩ : ∃ k, Hid (k = l.length) := ⟨_, rfl⟩
  rw [← hk.out]
  obtain ⟨W1, hW1⟩ : ∃ W1, W1 = w.alloc (.cells #[.int .i64 code, .bool dn, .int .i64 size, .slice A n c, .slice B k e] 26) := ⟨_, rfl⟩
  have hN1 : Hid (New w W1) := by show New _ _; rw [hW1]; exact (New.refl w).alloc _
  have hb1 : Hid (Blk W1 w.heap.size 26 #[.int .i64 code, .bool dn, .int .i64 size, .slice A n c, .slice B k e]) := by show Blk _ _ _ _; rw [hW1]; exact Blk.fresh _ _ _
  have x0 := hb1.out.cell 0
  have x1 := hb1.out.cell 1
  have x2 := hb1.out.cell 2
  have x3 := hb1.out.cell 3
  have x4 := hb1.out.cell 4
  simp at x0 x1 x2 x3 x4
  clear hT
  go_enter Tryd.func8, Tryd.ntmps8
  go_upto_region 1 with fail
  rw [← hW1]
  clear hW1
  go_wp2
  exact bodyPost_ret (v := .tuple #[encStr [], .int .i64 4]) (by simp [results, Tryd.results8, go_sem]) rfl (TlP.bad hbad.out hN1.out)
theorem told_size (code size : Int) (dn : Bool) (A : Option Addr) (n c : Nat) (f : Nat → Nat) (B : Option Addr) (e : Nat) (l : List Nm) (w : World) (hT : ToldOk w code size A n f B e l) (hc : ¬ code < 0) (hs : size < 0) :
    Calls Tryd.prog 8 #[.agg #[.int .i64 code, .bool dn, .int .i64 size, .slice A n c, .slice B l.length e]] w (TlP code size dn f n l w) := by
  have hbad : Hid (badT code size l = true) := by show _ = _; unfold badT; rw [decide_eq_true hs]; simp
  have hTH := Lib.hid hT
  obtain ⟨k, hk⟩ : ∃ k, Hid (k = l.length) := ⟨_, rfl⟩
  rw [← hk.out]
  obtain ⟨W1, hW1⟩ : ∃ W1, W1 = w.alloc (.cells #[.int .i64 code, .bool dn, .int .i64 size, .slice A n c, .slice B k e] 26) := ⟨_, rfl⟩
  have hN1 : Hid (New w W1) := by show New _ _; rw [hW1]; exact (New.refl w).alloc _
  have hb1 : Hid (Blk W1 w.heap.size 26 #[.int .i64 code, .bool dn, .int .i64 size, .slice A n c, .slice B k e]) := by show Blk _ _ _ _; rw [hW1]; exact Blk.fresh _ _ _
  have x0 := hb1.out.cell 0
  have x1 := hb1.out.cell 1
  have x2 := hb1.out.cell 2
  have x3 := hb1.out.cell 3
  have x4 := hb1.out.cell 4
  simp at x0 x1 x2 x3 x4
  clear hT
  go_enter Tryd.func8, Tryd.ntmps8
  go_upto_region 1 with fail
  rw [← hW1]
  clear hW1
  go_wp2
  exact bodyPost_ret (v := .tuple #[encStr [], .int .i64 4]) (by simp [results, Tryd.results8, go_sem]) rfl (TlP.bad hbad.out hN1.out)
set_option maxHeartbeats 2000000 in
theorem told_ok (code size : Int) (dn : Bool) (A : Option Addr) (n c : Nat) (f : Nat → Nat) (B : Option Addr) (e : Nat) (l : List Nm) (w : World) (hT : ToldOk w code size A n f B e l) (hz : code = 0) (hc : ¬ code < 0) (hs : ¬ size < 0) :
    Calls Tryd.prog 8 #[.agg #[.int .i64 code, .bool dn, .int .i64 size, .slice A n c, .slice B l.length e]] w (TlP code size dn f n l w) := by
  subst hz
  have hTH := Lib.hid hT
  obtain ⟨k, hk⟩ : ∃ k, Hid (k = l.length) := ⟨_, rfl⟩
  rw [← hk.out]
  obtain ⟨W1, hW1⟩ : ∃ W1, W1 = w.alloc (.cells #[.int .i64 0, .bool dn, .int .i64 size, .slice A n c, .slice B k e] 26) := ⟨_, rfl⟩
  have hN1 : Hid (New w W1) := by show New _ _; rw [hW1]; exact (New.refl w).alloc _
  have hb1 : Hid (Blk W1 w.heap.size 26 #[.int .i64 0, .bool dn, .int .i64 size, .slice A n c, .slice B k e]) := by show Blk _ _ _ _; rw [hW1]; exact Blk.fresh _ _ _
  have x0 := hb1.out.cell 0
  have x1 := hb1.out.cell 1
  have x2 := hb1.out.cell 2
  have x3 := hb1.out.cell 3
  have x4 := hb1.out.cell 4
  simp at x0 x1 x2 x3 x4
  clear hT
  go_enter Tryd.func8, Tryd.ntmps8
  go_upto_region 1 with fail
  rw [← hW1]
  clear hW1
  obtain ⟨dg, hdg⟩ : ∃ dg, Hid (dg = Lib.itoa size) := ⟨_, rfl⟩
  obtain ⟨hx, hhx⟩ : ∃ hx, Hid (hx = hexT f n) := ⟨_, rfl⟩
  have hdl : dg.length ≤ 21 := by rw [hdg.out]; exact itoa_len21 hTH.out.s0 hTH.out.s1
  have hxl : hx.length ≤ 2097153 := by
    rw [hhx.out]
    have := hTH.out.n1
    unfold hexT
    split
    · simp
    · rw [hexN_len]; omega
  have hI : Hid (∀ w', New W1 w' → Calls Tryd.prog 23 #[.int .i64 size] w' fun e w'' => e = .returned (encStr dg) ∧ New w' w'') := fun w' hn => by
    rw [hdg.out]
    exact (deci_any size hTH.out.s0 hTH.out.s1 w').mono fun e w'' h => ⟨h.1, h.2 ▸ New.refl _⟩
  have hX : Hid (∀ w', New W1 w' → Calls Tryd.prog 24 #[.slice A n c] w' fun e w'' => e = .returned (encStr hx) ∧ New w' w'') := fun w' hn => by
    rw [hhx.out]
    exact hexa_any A n c f w' (hTH.out.dat.new (hN1.out.next hn)) hTH.out.lt hTH.out.n1
  go_upto_region 6 with fail
  have k2 := NewW.keep x2
  have k3 := NewW.keep x3
  go_wp2
  (refine wp_region_quiet_new (by kernel_rfl) (by kernel_rfl) ?_; (repeat (first | go_big_quiet_step (first | (go_at_call 23; exact NewW.call _ (hI.out _ (NewW.is _))) | (go_at_call 24; exact NewW.call _ (hX.out _ (NewW.is _)))) | quiet_step (first | (go_at_call 23; exact NewW.call _ (hI.out _ (NewW.is _))) | (go_at_call 24; exact NewW.call _ (hX.out _ (NewW.is _)))))); refine wpQuiet_nil ?_; rintro W2 ⟨⟨_, hn_W2⟩, rfl⟩)
  obtain ⟨S, hS⟩ : ∃ S : Tx, Hid (S = [111, 107, 32] ++ (dg ++ [32] ++ hx)) := ⟨[111, 107, 32] ++ (dg ++ [32] ++ hx), rfl⟩
  have hSe : ((⟨#[111, 107, 32]⟩ : ByteArray) ++ ((⟨dg.toArray⟩ : ByteArray) ++ ⟨#[32]⟩ ++ ⟨hx.toArray⟩)) = ⟨S.toArray⟩ := by
    show ((⟨[111, 107, 32].toArray⟩ : ByteArray) ++ ((⟨dg.toArray⟩ : ByteArray) ++ ⟨[32].toArray⟩ ++ ⟨hx.toArray⟩)) = _
    rw [ByteArray.mk_append_mk, ByteArray.mk_append_mk, ByteArray.mk_append_mk, hS.out]
  rw [hSe]
  clear hSe
  have hSl : S.length ≤ 2200000 := by
    rw [hS.out]
    simp
    omega
  have hSh : Hid ((if dn = true then S ++ [32, 100, 111, 110, 101] else S) = headL 0 size dn f n) := by
    show _ = _
    unfold headL
    rw [hS.out, hdg.out, hhx.out]
    cases dn <;> simp
  have hN2 := Lib.hid (hN1.out.next hn_W2)
  have hb2 := Lib.hid (hb1.out.new hn_W2)
  clear hn_W2 x0 x1 x2 x3 x4 k2 k3
  have x1 := hb2.out.cell 1
  have x4 := hb2.out.cell 4
  simp at x1 x4
  have hkm := hTH.out.nam.1
  rw [← hk.out] at hkm
  have hRd : Hid (0 < k → ∃ g off, B = some ⟨g, off, none⟩ ∧ g < W2.heap.size ∧ ∀ i, i < k → W2.cell? ⟨g, off + i, none⟩ = some (encStr (l.getD i []))) := by
    rw [hk.out]
    exact (hTH.out.nam.new hN2.out).2.1
  have hLen : Hid (∀ i, i < k → (l.getD i []).length ≤ 1048576) := fun i hi => hTH.out.nam.2.2 _ (getD_mem (by rw [← hk.out]; exact hi))
  have hTl : Hid (∀ i, (tailT (l.take i)).length ≤ 16777216) := fun i => Nat.le_trans (tail_le l i) hTH.out.sum
  have hMo : Hid (∀ i, i < k → tailT (l.take (i + 1)) = tailT (l.take i) ++ (32 :: l.getD i [])) := fun i hi => tail_more l (by rw [← hk.out]; exact hi)
  have hbad1 : Hid (∀ i, i < k → oddN (l.getD i []) = true → badT 0 size l = true) := fun i hi ho => by
    have : l.any oddN = true := by
      rw [List.any_eq_true]
      exact ⟨_, getD_mem (by rw [← hk.out]; exact hi), ho⟩
    unfold badT
    rw [this]
    simp
  have hgd1 : Hid ((∀ j, j < k → oddN (l.getD j []) = false) → badT 0 size l = false) := fun h => by
    have : l.any oddN = false := by
      rw [List.any_eq_false]
      intro s hs
      obtain ⟨j, hj⟩ := List.mem_iff_getElem?.1 hs
      have hjn : j < k := by rw [hk.out]; exact (List.getElem?_eq_some_iff.1 hj).1
      have := h j hjn
      rw [List.getD, hj] at this
      simpa using this
    unfold badT
    rw [this, decide_eq_false (by omega), decide_eq_false (by omega)]
    rfl
  cases dn
  · obtain ⟨S2, hS2⟩ : ∃ S2, Hid (S2 = S) := ⟨_, rfl⟩
    have hhd : Hid (S2 = headL 0 size false f n) := by
      show _ = _
      rw [hS2.out, ← hSh.out]
      simp
    have hS2l : S2.length ≤ 2200010 := by rw [hS2.out]; omega
    rw [← hS2.out]
    go_upto_region 9 with fail
    go_wp2_with fail
    go_loopw [40, 4] (fun q sv wr => ∃ i : Nat, q = .int .i64 (i : Nat) ∧ i ≤ k ∧ sv = encStr (S2 ++ tailT (l.take i)) ∧ Hid (∀ j, j < i → oddN (l.getD j []) = false) ∧ W2 = wr) (fun q _ _ => k - (intOf q).toNat)
    case atStart => exact ⟨0, rfl, Nat.zero_le _, by rw [List.take_zero, show tailT [] = [] from rfl, List.append_nil], Lib.hid (fun j hj => absurd hj (Nat.not_lt_zero j)), rfl⟩
    case round =>
      obtain ⟨i, rfl, hi, rfl, hno, rfl⟩ := hrel
      by_cases hlt : i < k
      · obtain ⟨g, off, rfl, hg, hc⟩ := hRd.out (by omega)
        have e0 := hc i hlt
        have hil : (i : Int) < (k : Int) := by omega
        have hyl := hLen.out i hlt
        have hmo := Lib.hid (hMo.out i hlt)
        have hby := Lib.hid (hbad1.out i hlt)
        obtain ⟨y, hy⟩ : ∃ y, Hid (y = l.getD i []) := ⟨_, rfl⟩
        rw [← hy.out] at e0 hmo hby hyl
        obtain ⟨M, hM⟩ : ∃ M, Hid (M = S2 ++ tailT (l.take i)) := ⟨_, rfl⟩
        have hMl : M.length ≤ 20000000 := by
          have := hTl.out i
          rw [hM.out, List.length_append]
          omega
        have hmx : Hid (S2 ++ tailT (l.take (i + 1)) = M ++ ([32] ++ y)) := by
          show _ = _
          rw [hmo.out, hM.out, List.append_assoc]
          rfl
        rw [← hM.out]
        have hgn := Lib.hid (goodName_any y (by unfold maxLen; omega) W2)
        clear hc
        by_cases hdone : y = [100, 111, 110, 101]
        · subst hdone
          have hbd : Hid (badT 0 size l = true) := hby.out (by decide)
          have hgd : goodN [100, 111, 110, 101] = true := by decide
          rw [hgd] at hgn
          go_wp2_with (go_at_call 25; refine hgn.out.mono ?_; rintro e w9 ⟨rfl, rfl⟩)
          exact bodyPost_ret (v := .tuple #[encStr [], .int .i64 4]) (by simp [results, Tryd.results8, go_sem]) rfl (TlP.bad hbd.out hN2.out)
        · have hne : (y == [100, 111, 110, 101]) = false := by simpa using hdone
          have hneH := Lib.hid hne
          cases hgy : goodN y
          · have hbd : Hid (badT 0 size l = true) := hby.out (by unfold oddN; rw [hgy]; rfl)
            rw [hgy] at hgn
            clear hgy
            go_wp2_with (go_at_call 25; refine hgn.out.mono ?_; rintro e w9 ⟨rfl, rfl⟩)
            exact bodyPost_ret (v := .tuple #[encStr [], .int .i64 4]) (by simp [results, Tryd.results8, go_sem]) rfl (TlP.bad hbd.out hN2.out)
          · have hoy : Hid (oddN y = false) := by show _ = _; unfold oddN; rw [hgy, hneH.out]; rfl
            rw [hgy] at hgn
            clear hgy hdone
            go_wp2_with (go_at_call 25; refine hgn.out.mono ?_; rintro e w9 ⟨rfl, rfl⟩)
            go_roundw
            case rel =>
              refine ⟨i + 1, by go_num, by omega, ?_, Lib.hid (fun j hj => ?_), trivial⟩
              · rw [hmx.out, ← enc_add, ← ByteArray.mk_append_mk [32] y]
              · by_cases e : j = i
                · subst e
                  rw [← hy.out]
                  exact hoy.out
                · exact hno.out j (by omega)
            case measure => simp [intOf]; omega
      · have hin : k = i := by omega
        have hil : ¬ (i : Int) < (k : Int) := by omega
        subst hin
        have hgd : Hid (badT 0 size l = false) := hgd1.out hno.out
        obtain ⟨M, hM⟩ : ∃ M, Hid (M = S2 ++ tailT (l.take k)) := ⟨_, rfl⟩
        have hML : Hid (M = lineT 0 size false f n l) := by
          show _ = _
          rw [hM.out, List.take_of_length_le (by have := hk.out; omega), hhd.out]
          rfl
        rw [← hM.out]
        go_wp2
        exact bodyPost_ret (v := .tuple #[encStr M, .int .i64 0]) (by simp [results, Tryd.results8, go_sem]) rfl (TlP.good hgd.out hML.out hN2.out)
  · obtain ⟨S2, hS2⟩ : ∃ S2, Hid (S2 = S ++ [32, 100, 111, 110, 101]) := ⟨S ++ [32, 100, 111, 110, 101], rfl⟩
    have hhd : Hid (S2 = headL 0 size true f n) := by
      show _ = _
      rw [hS2.out, ← hSh.out]
      simp
    have hS2l : S2.length ≤ 2200010 := by rw [hS2.out]; simp; omega
    have hSe : ((⟨S.toArray⟩ : ByteArray) ++ ⟨#[32, 100, 111, 110, 101]⟩) = ⟨S2.toArray⟩ := by
      show ((⟨S.toArray⟩ : ByteArray) ++ ⟨[32, 100, 111, 110, 101].toArray⟩) = _
      rw [ByteArray.mk_append_mk, hS2.out]
    go_upto_region 9 with fail
    clear hSe
    go_wp2_with fail
    go_loopw [40, 4] (fun q sv wr => ∃ i : Nat, q = .int .i64 (i : Nat) ∧ i ≤ k ∧ sv = encStr (S2 ++ tailT (l.take i)) ∧ Hid (∀ j, j < i → oddN (l.getD j []) = false) ∧ W2 = wr) (fun q _ _ => k - (intOf q).toNat)
    case atStart => exact ⟨0, rfl, Nat.zero_le _, by rw [List.take_zero, show tailT [] = [] from rfl, List.append_nil], Lib.hid (fun j hj => absurd hj (Nat.not_lt_zero j)), rfl⟩
    case round =>
      obtain ⟨i, rfl, hi, rfl, hno, rfl⟩ := hrel
      by_cases hlt : i < k
      · obtain ⟨g, off, rfl, hg, hc⟩ := hRd.out (by omega)
        have e0 := hc i hlt
        have hil : (i : Int) < (k : Int) := by omega
        have hyl := hLen.out i hlt
        have hmo := Lib.hid (hMo.out i hlt)
        have hby := Lib.hid (hbad1.out i hlt)
        obtain ⟨y, hy⟩ : ∃ y, Hid (y = l.getD i []) := ⟨_, rfl⟩
        rw [← hy.out] at e0 hmo hby hyl
        obtain ⟨M, hM⟩ : ∃ M, Hid (M = S2 ++ tailT (l.take i)) := ⟨_, rfl⟩
        have hMl : M.length ≤ 20000000 := by
          have := hTl.out i
          rw [hM.out, List.length_append]
          omega
        have hmx : Hid (S2 ++ tailT (l.take (i + 1)) = M ++ ([32] ++ y)) := by
          show _ = _
          rw [hmo.out, hM.out, List.append_assoc]
          rfl
        rw [← hM.out]
        have hgn := Lib.hid (goodName_any y (by unfold maxLen; omega) W2)
        clear hc
        by_cases hdone : y = [100, 111, 110, 101]
        · subst hdone
          have hbd : Hid (badT 0 size l = true) := hby.out (by decide)
          have hgd : goodN [100, 111, 110, 101] = true := by decide
          rw [hgd] at hgn
          go_wp2_with (go_at_call 25; refine hgn.out.mono ?_; rintro e w9 ⟨rfl, rfl⟩)
          exact bodyPost_ret (v := .tuple #[encStr [], .int .i64 4]) (by simp [results, Tryd.results8, go_sem]) rfl (TlP.bad hbd.out hN2.out)
        · have hne : (y == [100, 111, 110, 101]) = false := by simpa using hdone
          have hneH := Lib.hid hne
          cases hgy : goodN y
          · have hbd : Hid (badT 0 size l = true) := hby.out (by unfold oddN; rw [hgy]; rfl)
            rw [hgy] at hgn
            clear hgy
            go_wp2_with (go_at_call 25; refine hgn.out.mono ?_; rintro e w9 ⟨rfl, rfl⟩)
            exact bodyPost_ret (v := .tuple #[encStr [], .int .i64 4]) (by simp [results, Tryd.results8, go_sem]) rfl (TlP.bad hbd.out hN2.out)
          · have hoy : Hid (oddN y = false) := by show _ = _; unfold oddN; rw [hgy, hneH.out]; rfl
            rw [hgy] at hgn
            clear hgy hdone
            go_wp2_with (go_at_call 25; refine hgn.out.mono ?_; rintro e w9 ⟨rfl, rfl⟩)
            go_roundw
            case rel =>
              refine ⟨i + 1, by go_num, by omega, ?_, Lib.hid (fun j hj => ?_), trivial⟩
              · rw [hmx.out, ← enc_add, ← ByteArray.mk_append_mk [32] y]
              · by_cases e : j = i
                · subst e
                  rw [← hy.out]
                  exact hoy.out
                · exact hno.out j (by omega)
            case measure => simp [intOf]; omega
      · have hin : k = i := by omega
        have hil : ¬ (i : Int) < (k : Int) := by omega
        subst hin
        have hgd : Hid (badT 0 size l = false) := hgd1.out hno.out
        obtain ⟨M, hM⟩ : ∃ M, Hid (M = S2 ++ tailT (l.take k)) := ⟨_, rfl⟩
        have hML : Hid (M = lineT 0 size true f n l) := by
          show _ = _
          rw [hM.out, List.take_of_length_le (by have := hk.out; omega), hhd.out]
          rfl
        rw [← hM.out]
        go_wp2
        exact bodyPost_ret (v := .tuple #[encStr M, .int .i64 0]) (by simp [results, Tryd.results8, go_sem]) rfl (TlP.good hgd.out hML.out hN2.out)
set_option maxHeartbeats 2000000 in
theorem told_no (code size : Int) (dn : Bool) (A : Option Addr) (n c : Nat) (f : Nat → Nat) (B : Option Addr) (e : Nat) (l : List Nm) (w : World) (hT : ToldOk w code size A n f B e l) (hz : ¬ code = 0) (hc : ¬ code < 0) (hs : ¬ size < 0) :
    Calls Tryd.prog 8 #[.agg #[.int .i64 code, .bool dn, .int .i64 size, .slice A n c, .slice B l.length e]] w (TlP code size dn f n l w) := by
  have hTH := Lib.hid hT
  obtain ⟨k, hk⟩ : ∃ k, Hid (k = l.length) := ⟨_, rfl⟩
  rw [← hk.out]
  obtain ⟨W1, hW1⟩ : ∃ W1, W1 = w.alloc (.cells #[.int .i64 code, .bool dn, .int .i64 size, .slice A n c, .slice B k e] 26) := ⟨_, rfl⟩
  have hN1 : Hid (New w W1) := by show New _ _; rw [hW1]; exact (New.refl w).alloc _
  have hb1 : Hid (Blk W1 w.heap.size 26 #[.int .i64 code, .bool dn, .int .i64 size, .slice A n c, .slice B k e]) := by show Blk _ _ _ _; rw [hW1]; exact Blk.fresh _ _ _
  have x0 := hb1.out.cell 0
  have x1 := hb1.out.cell 1
  have x2 := hb1.out.cell 2
  have x3 := hb1.out.cell 3
  have x4 := hb1.out.cell 4
  simp at x0 x1 x2 x3 x4
  clear hT
  go_enter Tryd.func8, Tryd.ntmps8
  go_upto_region 1 with fail
  rw [← hW1]
  clear hW1
  obtain ⟨dg, hdg⟩ : ∃ dg, Hid (dg = Lib.itoa size) := ⟨_, rfl⟩
  obtain ⟨hx, hhx⟩ : ∃ hx, Hid (hx = hexT f n) := ⟨_, rfl⟩
  have hdl : dg.length ≤ 21 := by rw [hdg.out]; exact itoa_len21 hTH.out.s0 hTH.out.s1
  have hxl : hx.length ≤ 2097153 := by
    rw [hhx.out]
    have := hTH.out.n1
    unfold hexT
    split
    · simp
    · rw [hexN_len]; omega
  have hI : Hid (∀ w', New W1 w' → Calls Tryd.prog 23 #[.int .i64 size] w' fun e w'' => e = .returned (encStr dg) ∧ New w' w'') := fun w' hn => by
    rw [hdg.out]
    exact (deci_any size hTH.out.s0 hTH.out.s1 w').mono fun e w'' h => ⟨h.1, h.2 ▸ New.refl _⟩
  have hX : Hid (∀ w', New W1 w' → Calls Tryd.prog 24 #[.slice A n c] w' fun e w'' => e = .returned (encStr hx) ∧ New w' w'') := fun w' hn => by
    rw [hhx.out]
    exact hexa_any A n c f w' (hTH.out.dat.new (hN1.out.next hn)) hTH.out.lt hTH.out.n1
  obtain ⟨dc, hdc⟩ : ∃ dc, Hid (dc = Lib.itoa code) := ⟨_, rfl⟩
  have hcl : dc.length ≤ 21 := by rw [hdc.out]; exact itoa_len21 hTH.out.c0 hTH.out.c1
  have hIc : Hid (Calls Tryd.prog 23 #[.int .i64 code] W1 fun e w' => e = .returned (encStr dc) ∧ W1 = w') := by
    show Calls _ _ _ _ _
    rw [hdc.out]
    exact deci_any code hTH.out.c0 hTH.out.c1 W1
  have hpos : 0 < code := by omega
  have hzH := Lib.hid hz
  clear hz
  go_upto_region 6 with (go_at_call 23; refine hIc.out.mono ?_; rintro e w4 ⟨rfl, rfl⟩)
  have k2 := NewW.keep x2
  have k3 := NewW.keep x3
  go_wp2
  (refine wp_region_quiet_new (by kernel_rfl) (by kernel_rfl) ?_; (repeat (first | go_big_quiet_step (first | (go_at_call 23; exact NewW.call _ (hI.out _ (NewW.is _))) | (go_at_call 24; exact NewW.call _ (hX.out _ (NewW.is _)))) | quiet_step (first | (go_at_call 23; exact NewW.call _ (hI.out _ (NewW.is _))) | (go_at_call 24; exact NewW.call _ (hX.out _ (NewW.is _)))))); refine wpQuiet_nil ?_; rintro W2 ⟨⟨_, hn_W2⟩, rfl⟩)
  obtain ⟨S, hS⟩ : ∃ S : Tx, Hid (S = [110, 111, 32] ++ dc ++ [32] ++ (dg ++ [32] ++ hx)) := ⟨[110, 111, 32] ++ dc ++ [32] ++ (dg ++ [32] ++ hx), rfl⟩
  have hSe : ((⟨#[110, 111, 32]⟩ : ByteArray) ++ ⟨dc.toArray⟩ ++ ⟨#[32]⟩ ++ ((⟨dg.toArray⟩ : ByteArray) ++ ⟨#[32]⟩ ++ ⟨hx.toArray⟩)) = ⟨S.toArray⟩ := by
    show ((⟨[110, 111, 32].toArray⟩ : ByteArray) ++ ⟨dc.toArray⟩ ++ ⟨[32].toArray⟩ ++ ((⟨dg.toArray⟩ : ByteArray) ++ ⟨[32].toArray⟩ ++ ⟨hx.toArray⟩)) = _
    rw [ByteArray.mk_append_mk, ByteArray.mk_append_mk, ByteArray.mk_append_mk, ByteArray.mk_append_mk, ByteArray.mk_append_mk, hS.out]
  rw [hSe]
  clear hSe
  have hSl : S.length ≤ 2200000 := by
    rw [hS.out]
    simp
    omega
  have hSh : Hid ((if dn = true then S ++ [32, 100, 111, 110, 101] else S) = headL code size dn f n) := by
    show _ = _
    unfold headL
    rw [hS.out, hdg.out, hhx.out, hdc.out, if_neg hzH.out]
    cases dn <;> simp
  have hN2 := Lib.hid (hN1.out.next hn_W2)
  have hb2 := Lib.hid (hb1.out.new hn_W2)
  clear hn_W2 x0 x1 x2 x3 x4 k2 k3
  have x1 := hb2.out.cell 1
  have x4 := hb2.out.cell 4
  simp at x1 x4
  have hkm := hTH.out.nam.1
  rw [← hk.out] at hkm
  have hRd : Hid (0 < k → ∃ g off, B = some ⟨g, off, none⟩ ∧ g < W2.heap.size ∧ ∀ i, i < k → W2.cell? ⟨g, off + i, none⟩ = some (encStr (l.getD i []))) := by
    rw [hk.out]
    exact (hTH.out.nam.new hN2.out).2.1
  have hLen : Hid (∀ i, i < k → (l.getD i []).length ≤ 1048576) := fun i hi => hTH.out.nam.2.2 _ (getD_mem (by rw [← hk.out]; exact hi))
  have hTl : Hid (∀ i, (tailT (l.take i)).length ≤ 16777216) := fun i => Nat.le_trans (tail_le l i) hTH.out.sum
  have hMo : Hid (∀ i, i < k → tailT (l.take (i + 1)) = tailT (l.take i) ++ (32 :: l.getD i [])) := fun i hi => tail_more l (by rw [← hk.out]; exact hi)
  have hbad1 : Hid (∀ i, i < k → oddN (l.getD i []) = true → badT code size l = true) := fun i hi ho => by
    have : l.any oddN = true := by
      rw [List.any_eq_true]
      exact ⟨_, getD_mem (by rw [← hk.out]; exact hi), ho⟩
    unfold badT
    rw [this]
    simp
  have hgd1 : Hid ((∀ j, j < k → oddN (l.getD j []) = false) → badT code size l = false) := fun h => by
    have : l.any oddN = false := by
      rw [List.any_eq_false]
      intro s hs
      obtain ⟨j, hj⟩ := List.mem_iff_getElem?.1 hs
      have hjn : j < k := by rw [hk.out]; exact (List.getElem?_eq_some_iff.1 hj).1
      have := h j hjn
      rw [List.getD, hj] at this
      simpa using this
    unfold badT
    rw [this, decide_eq_false (by omega), decide_eq_false (by omega)]
    rfl
  cases dn
  · obtain ⟨S2, hS2⟩ : ∃ S2, Hid (S2 = S) := ⟨_, rfl⟩
    have hhd : Hid (S2 = headL code size false f n) := by
      show _ = _
      rw [hS2.out, ← hSh.out]
      simp
    have hS2l : S2.length ≤ 2200010 := by rw [hS2.out]; omega
    rw [← hS2.out]
    go_upto_region 9 with fail
    go_wp2_with fail
    go_loopw [40, 4] (fun q sv wr => ∃ i : Nat, q = .int .i64 (i : Nat) ∧ i ≤ k ∧ sv = encStr (S2 ++ tailT (l.take i)) ∧ Hid (∀ j, j < i → oddN (l.getD j []) = false) ∧ W2 = wr) (fun q _ _ => k - (intOf q).toNat)
    case atStart => exact ⟨0, rfl, Nat.zero_le _, by rw [List.take_zero, show tailT [] = [] from rfl, List.append_nil], Lib.hid (fun j hj => absurd hj (Nat.not_lt_zero j)), rfl⟩
    case round =>
      obtain ⟨i, rfl, hi, rfl, hno, rfl⟩ := hrel
      by_cases hlt : i < k
      · obtain ⟨g, off, rfl, hg, hc⟩ := hRd.out (by omega)
        have e0 := hc i hlt
        have hil : (i : Int) < (k : Int) := by omega
        have hyl := hLen.out i hlt
        have hmo := Lib.hid (hMo.out i hlt)
        have hby := Lib.hid (hbad1.out i hlt)
        obtain ⟨y, hy⟩ : ∃ y, Hid (y = l.getD i []) := ⟨_, rfl⟩
        rw [← hy.out] at e0 hmo hby hyl
        obtain ⟨M, hM⟩ : ∃ M, Hid (M = S2 ++ tailT (l.take i)) := ⟨_, rfl⟩
        have hMl : M.length ≤ 20000000 := by
          have := hTl.out i
          rw [hM.out, List.length_append]
          omega
        have hmx : Hid (S2 ++ tailT (l.take (i + 1)) = M ++ ([32] ++ y)) := by
          show _ = _
          rw [hmo.out, hM.out, List.append_assoc]
          rfl
        rw [← hM.out]
        have hgn := Lib.hid (goodName_any y (by unfold maxLen; omega) W2)
        clear hc
        by_cases hdone : y = [100, 111, 110, 101]
        · subst hdone
          have hbd : Hid (badT code size l = true) := hby.out (by decide)
          have hgd : goodN [100, 111, 110, 101] = true := by decide
          rw [hgd] at hgn
          go_wp2_with (go_at_call 25; refine hgn.out.mono ?_; rintro e w9 ⟨rfl, rfl⟩)
          exact bodyPost_ret (v := .tuple #[encStr [], .int .i64 4]) (by simp [results, Tryd.results8, go_sem]) rfl (TlP.bad hbd.out hN2.out)
        · have hne : (y == [100, 111, 110, 101]) = false := by simpa using hdone
          have hneH := Lib.hid hne
          cases hgy : goodN y
          · have hbd : Hid (badT code size l = true) := hby.out (by unfold oddN; rw [hgy]; rfl)
            rw [hgy] at hgn
            clear hgy
            go_wp2_with (go_at_call 25; refine hgn.out.mono ?_; rintro e w9 ⟨rfl, rfl⟩)
            exact bodyPost_ret (v := .tuple #[encStr [], .int .i64 4]) (by simp [results, Tryd.results8, go_sem]) rfl (TlP.bad hbd.out hN2.out)
          · have hoy : Hid (oddN y = false) := by show _ = _; unfold oddN; rw [hgy, hneH.out]; rfl
            rw [hgy] at hgn
            clear hgy hdone
            go_wp2_with (go_at_call 25; refine hgn.out.mono ?_; rintro e w9 ⟨rfl, rfl⟩)
            go_roundw
            case rel =>
              refine ⟨i + 1, by go_num, by omega, ?_, Lib.hid (fun j hj => ?_), trivial⟩
              · rw [hmx.out, ← enc_add, ← ByteArray.mk_append_mk [32] y]
              · by_cases e : j = i
                · subst e
                  rw [← hy.out]
                  exact hoy.out
                · exact hno.out j (by omega)
            case measure => simp [intOf]; omega
      · have hin : k = i := by omega
        have hil : ¬ (i : Int) < (k : Int) := by omega
        subst hin
        have hgd : Hid (badT code size l = false) := hgd1.out hno.out
        obtain ⟨M, hM⟩ : ∃ M, Hid (M = S2 ++ tailT (l.take k)) := ⟨_, rfl⟩
        have hML : Hid (M = lineT code size false f n l) := by
          show _ = _
          rw [hM.out, List.take_of_length_le (by have := hk.out; omega), hhd.out]
          rfl
        rw [← hM.out]
        go_wp2
        exact bodyPost_ret (v := .tuple #[encStr M, .int .i64 0]) (by simp [results, Tryd.results8, go_sem]) rfl (TlP.good hgd.out hML.out hN2.out)
  · obtain ⟨S2, hS2⟩ : ∃ S2, Hid (S2 = S ++ [32, 100, 111, 110, 101]) := ⟨S ++ [32, 100, 111, 110, 101], rfl⟩
    have hhd : Hid (S2 = headL code size true f n) := by
      show _ = _
      rw [hS2.out, ← hSh.out]
      simp
    have hS2l : S2.length ≤ 2200010 := by rw [hS2.out]; simp; omega
    have hSe : ((⟨S.toArray⟩ : ByteArray) ++ ⟨#[32, 100, 111, 110, 101]⟩) = ⟨S2.toArray⟩ := by
      show ((⟨S.toArray⟩ : ByteArray) ++ ⟨[32, 100, 111, 110, 101].toArray⟩) = _
      rw [ByteArray.mk_append_mk, hS2.out]
    go_upto_region 9 with fail
    clear hSe
    go_wp2_with fail
    go_loopw [40, 4] (fun q sv wr => ∃ i : Nat, q = .int .i64 (i : Nat) ∧ i ≤ k ∧ sv = encStr (S2 ++ tailT (l.take i)) ∧ Hid (∀ j, j < i → oddN (l.getD j []) = false) ∧ W2 = wr) (fun q _ _ => k - (intOf q).toNat)
    case atStart => exact ⟨0, rfl, Nat.zero_le _, by rw [List.take_zero, show tailT [] = [] from rfl, List.append_nil], Lib.hid (fun j hj => absurd hj (Nat.not_lt_zero j)), rfl⟩
    case round =>
      obtain ⟨i, rfl, hi, rfl, hno, rfl⟩ := hrel
      by_cases hlt : i < k
      · obtain ⟨g, off, rfl, hg, hc⟩ := hRd.out (by omega)
        have e0 := hc i hlt
        have hil : (i : Int) < (k : Int) := by omega
        have hyl := hLen.out i hlt
        have hmo := Lib.hid (hMo.out i hlt)
        have hby := Lib.hid (hbad1.out i hlt)
        obtain ⟨y, hy⟩ : ∃ y, Hid (y = l.getD i []) := ⟨_, rfl⟩
        rw [← hy.out] at e0 hmo hby hyl
        obtain ⟨M, hM⟩ : ∃ M, Hid (M = S2 ++ tailT (l.take i)) := ⟨_, rfl⟩
        have hMl : M.length ≤ 20000000 := by
          have := hTl.out i
          rw [hM.out, List.length_append]
          omega
        have hmx : Hid (S2 ++ tailT (l.take (i + 1)) = M ++ ([32] ++ y)) := by
          show _ = _
          rw [hmo.out, hM.out, List.append_assoc]
          rfl
        rw [← hM.out]
        have hgn := Lib.hid (goodName_any y (by unfold maxLen; omega) W2)
        clear hc
        by_cases hdone : y = [100, 111, 110, 101]
        · subst hdone
          have hbd : Hid (badT code size l = true) := hby.out (by decide)
          have hgd : goodN [100, 111, 110, 101] = true := by decide
          rw [hgd] at hgn
          go_wp2_with (go_at_call 25; refine hgn.out.mono ?_; rintro e w9 ⟨rfl, rfl⟩)
          exact bodyPost_ret (v := .tuple #[encStr [], .int .i64 4]) (by simp [results, Tryd.results8, go_sem]) rfl (TlP.bad hbd.out hN2.out)
        · have hne : (y == [100, 111, 110, 101]) = false := by simpa using hdone
          have hneH := Lib.hid hne
          cases hgy : goodN y
          · have hbd : Hid (badT code size l = true) := hby.out (by unfold oddN; rw [hgy]; rfl)
            rw [hgy] at hgn
            clear hgy
            go_wp2_with (go_at_call 25; refine hgn.out.mono ?_; rintro e w9 ⟨rfl, rfl⟩)
            exact bodyPost_ret (v := .tuple #[encStr [], .int .i64 4]) (by simp [results, Tryd.results8, go_sem]) rfl (TlP.bad hbd.out hN2.out)
          · have hoy : Hid (oddN y = false) := by show _ = _; unfold oddN; rw [hgy, hneH.out]; rfl
            rw [hgy] at hgn
            clear hgy hdone
            go_wp2_with (go_at_call 25; refine hgn.out.mono ?_; rintro e w9 ⟨rfl, rfl⟩)
            go_roundw
            case rel =>
              refine ⟨i + 1, by go_num, by omega, ?_, Lib.hid (fun j hj => ?_), trivial⟩
              · rw [hmx.out, ← enc_add, ← ByteArray.mk_append_mk [32] y]
              · by_cases e : j = i
                · subst e
                  rw [← hy.out]
                  exact hoy.out
                · exact hno.out j (by omega)
            case measure => simp [intOf]; omega
      · have hin : k = i := by omega
        have hil : ¬ (i : Int) < (k : Int) := by omega
        subst hin
        have hgd : Hid (badT code size l = false) := hgd1.out hno.out
        obtain ⟨M, hM⟩ : ∃ M, Hid (M = S2 ++ tailT (l.take k)) := ⟨_, rfl⟩
        have hML : Hid (M = lineT code size true f n l) := by
          show _ = _
          rw [hM.out, List.take_of_length_le (by have := hk.out; omega), hhd.out]
          rfl
        rw [← hM.out]
        go_wp2
        exact bodyPost_ret (v := .tuple #[encStr M, .int .i64 0]) (by simp [results, Tryd.results8, go_sem]) rfl (TlP.good hgd.out hML.out hN2.out)
theorem Told_any (code size : Int) (dn : Bool) (A : Option Addr) (n c : Nat) (f : Nat → Nat) (B : Option Addr) (e : Nat) (l : List Nm) (w : World) (hT : ToldOk w code size A n f B e l) :
    Calls Tryd.prog 8 #[.agg #[.int .i64 code, .bool dn, .int .i64 size, .slice A n c, .slice B l.length e]] w (TlP code size dn f n l w) := by
  by_cases hc : code < 0
  · exact told_code code size dn A n c f B e l w hT hc
  by_cases hs : size < 0
  · exact told_size code size dn A n c f B e l w hT hc hs
  by_cases hz : code = 0
  · exact told_ok code size dn A n c f B e l w hT hz hc hs
  · exact told_no code size dn A n c f B e l w hT hz hc hs
end Go.Proofs.YtaommipcdcncnaaDoor.desk
