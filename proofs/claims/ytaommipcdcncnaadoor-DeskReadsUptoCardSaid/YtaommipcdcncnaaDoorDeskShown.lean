/-
  Contract of the reference's CommandShown.
-/
import Derived.Test.YtaommipcdcncnaaDoorDeskShow
import Derived.Test.YtaommipcdcncnaaDoorDeskLine
namespace Go.Proofs.YtaommipcdcncnaaDoor.desk
open Go.ChangeShapes Go.WideShapes Go.ChangeAt Go.RowKit Go.Proofs.YtaommipcdcncnaaDoor.kit Go.Deep
set_option linter.unusedVariables false
set_option maxRecDepth 100000
theorem shown_out (nm ot : Tx) (off cnt drv kp : Int) (R : Option Addr) (dn dc : Nat) (k : Int) (f : Nat → Nat) (w : World) (hk : k < 1 ∨ 19 < k) :
    Calls Tryd.prog 10 #[.agg #[.int .i64 k, encStr nm, encStr ot, .int .i64 off, .int .i64 cnt, .int .i64 drv, .int .i64 kp, .slice R dn dc]] w (ShP f k ⟨nm, ot, off, cnt, drv, kp, R, dn, dc⟩ w) := by
  have hs := Lib.hid (show_kind (f := f) (C := ⟨nm, ot, off, cnt, drv, kp, R, dn, dc⟩) hk)
  obtain ⟨W1, hW1⟩ : ∃ W1, W1 = w.alloc (.cells #[.int .i64 k, encStr nm, encStr ot, .int .i64 off, .int .i64 cnt, .int .i64 drv, .int .i64 kp, .slice R dn dc] 31) := ⟨_, rfl⟩
  have hN1 : Hid (New w W1) := by show New _ _; rw [hW1]; exact (New.refl w).alloc _
  have hb1 : Hid (Blk W1 w.heap.size 31 #[.int .i64 k, encStr nm, encStr ot, .int .i64 off, .int .i64 cnt, .int .i64 drv, .int .i64 kp, .slice R dn dc]) := by show Blk _ _ _ _; rw [hW1]; exact Blk.fresh _ _ _
  have x0 := hb1.out.cell 0
  simp at x0
  by_cases hk1 : k < 1
  · clear hk
    go_enter Tryd.func10, Tryd.ntmps10
    go_upto_region 1 with fail
    rw [← hW1]
    clear hW1
    go_wp2
    exact bodyPost_ret (v := .tuple #[encStr [], .int .i64 3]) (by simp [results, Tryd.results10, go_sem]) rfl (ShP.of hs.out hN1.out)
  · have hk2 : 19 < k := by omega
    clear hk
    go_enter Tryd.func10, Tryd.ntmps10
    go_upto_region 1 with fail
    rw [← hW1]
    clear hW1
    go_wp2
    exact bodyPost_ret (v := .tuple #[encStr [], .int .i64 3]) (by simp [results, Tryd.results10, go_sem]) rfl (ShP.of hs.out hN1.out)
set_option maxHeartbeats 2000000 in
theorem shown_in (i : Nat) (hi : i < 19) (nm ot : Tx) (off cnt drv kp : Int) (R : Option Addr) (dn dc : Nat) (k : Int) (f : Nat → Nat) (w : World) (hC : CuOk w f ⟨nm, ot, off, cnt, drv, kp, R, dn, dc⟩) (hf : ∀ i, f i < 256) (hk : k = (i : Int) + 1) :
    Calls Tryd.prog 10 #[.agg #[.int .i64 k, encStr nm, encStr ot, .int .i64 off, .int .i64 cnt, .int .i64 drv, .int .i64 kp, .slice R dn dc]] w (ShP f k ⟨nm, ot, off, cnt, drv, kp, R, dn, dc⟩ w) := by
  have hsn := Lib.hid (fun h => show_none (f := f) (C := ⟨nm, ot, off, cnt, drv, kp, R, dn, dc⟩) hi h)
  have hss := Lib.hid (fun q h => show_some (f := f) (C := ⟨nm, ot, off, cnt, drv, kp, R, dn, dc⟩) hi (q := q) h)
  rw [← hk] at hsn hss
  have hl : Hid (∀ w', New w w' → Calls Tryd.prog 27 #[.agg #[.int .i64 k, encStr nm, encStr ot, .int .i64 off, .int .i64 cnt, .int .i64 drv, .int .i64 kp, .slice R dn dc]] w' (LnP f i ⟨nm, ot, off, cnt, drv, kp, R, dn, dc⟩ w')) := fun w' hn => by
    rw [hk]
    exact line_any i hi ⟨nm, ot, off, cnt, drv, kp, R, dn, dc⟩ f w' (hC.new hn) hf
  have hk1 : ¬ k < 1 := by omega
  have hk2 : ¬ 19 < k := by omega
  obtain ⟨W1, hW1⟩ : ∃ W1, W1 = w.alloc (.cells #[.int .i64 k, encStr nm, encStr ot, .int .i64 off, .int .i64 cnt, .int .i64 drv, .int .i64 kp, .slice R dn dc] 31) := ⟨_, rfl⟩
  have hN1 : Hid (New w W1) := by show New _ _; rw [hW1]; exact (New.refl w).alloc _
  have hb1 : Hid (Blk W1 w.heap.size 31 #[.int .i64 k, encStr nm, encStr ot, .int .i64 off, .int .i64 cnt, .int .i64 drv, .int .i64 kp, .slice R dn dc]) := by show Blk _ _ _ _; rw [hW1]; exact Blk.fresh _ _ _
  have x0 := hb1.out.cell 0
  have x1 := hb1.out.cell 1
  have x2 := hb1.out.cell 2
  have x3 := hb1.out.cell 3
  have x4 := hb1.out.cell 4
  have x5 := hb1.out.cell 5
  have x6 := hb1.out.cell 6
  have x7 := hb1.out.cell 7
  simp at x0 x1 x2 x3 x4 x5 x6 x7
  have hbad : Hid (∀ (x : Tx) (q : Cu) (b : Bool), (b = true → ∃ ps, goS f (wordK i).2 ⟨nm, ot, off, cnt, drv, kp, R, dn, dc⟩ = some (ps, q) ∧ x = (wordK i).1 ++ tailT ps) → (b = false → goS f (wordK i).2 ⟨nm, ot, off, cnt, drv, kp, R, dn, dc⟩ = none) → (b = false ∨ zeroC q = false) → showT f k ⟨nm, ot, off, cnt, drv, kp, R, dn, dc⟩ = ([], 4)) := fun x q b h1 h2 h3 => by
    cases b with
    | false => exact hsn.out (h2 rfl)
    | true =>
      obtain ⟨ps, hg, _⟩ := h1 rfl
      rcases h3 with h3 | h3
      · cases h3
      · rw [hss.out _ hg, if_neg (by rw [h3]; decide)]
  have hgood : Hid (∀ (x : Tx) (q : Cu), (true = true → ∃ ps, goS f (wordK i).2 ⟨nm, ot, off, cnt, drv, kp, R, dn, dc⟩ = some (ps, q) ∧ x = (wordK i).1 ++ tailT ps) → zeroC q = true → showT f k ⟨nm, ot, off, cnt, drv, kp, R, dn, dc⟩ = (x, 0)) := fun x q h1 h3 => by
    obtain ⟨ps, hg, hx⟩ := h1 rfl
    rw [hss.out _ hg, if_pos h3, hx]
  clear hC hf hk
  go_enter Tryd.func10, Tryd.ntmps10
  go_upto_region 1 with fail
  rw [← hW1]
  clear hW1
  go_upto_region 4 with (go_at_call 27; refine (hl.out _ hN1.out).mono ?_; rintro e w4 ⟨x, ⟨qn, qo, qf, qc, qd, qk, qR, ql, qe⟩, b, rfl, hn4, hg1, hg2⟩; have hn4 := Lib.hid hn4; have hg1 := Lib.hid hg1; have hg2 := Lib.hid hg2; dsimp only [cuA])
  obtain ⟨W5, hW5⟩ : ∃ W5, W5 = w4.alloc (.cells #[.int .i64 0, .string ⟨qn.toArray⟩, .string ⟨qo.toArray⟩, .int .i64 qf, .int .i64 qc, .int .i64 qd, .int .i64 qk, .slice qR ql qe] 31) := ⟨_, rfl⟩
  have hN5 : Hid (New w W5) := by show New _ _; rw [hW5]; exact ((hN1.out.next hn4.out).alloc _)
  have hb5 : Hid (Blk W5 w4.heap.size 31 #[.int .i64 0, .string ⟨qn.toArray⟩, .string ⟨qo.toArray⟩, .int .i64 qf, .int .i64 qc, .int .i64 qd, .int .i64 qk, .slice qR ql qe]) := by show Blk _ _ _ _; rw [hW5]; exact Blk.fresh _ _ _
  rw [← hW5]
  clear hW5 x0 x1 x2 x3 x4 x5 x6 x7
  have y1 := hb5.out.cell 1
  have y2 := hb5.out.cell 2
  have y3 := hb5.out.cell 3
  have y4 := hb5.out.cell 4
  have y5 := hb5.out.cell 5
  have y6 := hb5.out.cell 6
  have y7 := hb5.out.cell 7
  simp at y1 y2 y3 y4 y5 y6 y7
  cases b
  · have hE := Lib.hid (hbad.out x ⟨qn, qo, qf, qc, qd, qk, qR, ql, qe⟩ false hg1.out hg2.out (.inl rfl))
    go_wp2
    exact bodyPost_ret (v := .tuple #[encStr [], .int .i64 4]) (by simp [results, Tryd.results10, go_sem]) rfl (ShP.of hE.out hN5.out)
  · skip
    by_cases hqn : qn = []
    · skip
      by_cases hqo : qo = []
      · skip
        by_cases hqf : qf = 0
        · skip
          by_cases hqc : qc = 0
          · skip
            by_cases hqd : qd = 0
            · skip
              by_cases hqk : qk = 0
              · skip
                by_cases hql : ql = 0
                · skip
                  have hE := Lib.hid (hgood.out x ⟨qn, qo, qf, qc, qd, qk, qR, ql, qe⟩ hg1.out (decide_eq_true ⟨hqn, hqo, hqf, hqc, hqd, hqk, hql⟩))
                  go_wp2
                  exact bodyPost_ret (v := .tuple #[encStr x, .int .i64 0]) (by simp [results, Tryd.results10, go_sem]) rfl (ShP.of hE.out hN5.out)
                · have hE := Lib.hid (hbad.out x ⟨qn, qo, qf, qc, qd, qk, qR, ql, qe⟩ true hg1.out hg2.out (.inr (decide_eq_false fun h => hql h.2.2.2.2.2.2)))
                  have hqlb : ¬ (ql : Int) = 0 := by omega
                  go_wp2
                  exact bodyPost_ret (v := .tuple #[encStr [], .int .i64 4]) (by simp [results, Tryd.results10, go_sem]) rfl (ShP.of hE.out hN5.out)
              · have hE := Lib.hid (hbad.out x ⟨qn, qo, qf, qc, qd, qk, qR, ql, qe⟩ true hg1.out hg2.out (.inr (decide_eq_false fun h => hqk h.2.2.2.2.2.1)))
                go_wp2
                exact bodyPost_ret (v := .tuple #[encStr [], .int .i64 4]) (by simp [results, Tryd.results10, go_sem]) rfl (ShP.of hE.out hN5.out)
            · have hE := Lib.hid (hbad.out x ⟨qn, qo, qf, qc, qd, qk, qR, ql, qe⟩ true hg1.out hg2.out (.inr (decide_eq_false fun h => hqd h.2.2.2.2.1)))
              go_wp2
              exact bodyPost_ret (v := .tuple #[encStr [], .int .i64 4]) (by simp [results, Tryd.results10, go_sem]) rfl (ShP.of hE.out hN5.out)
          · have hE := Lib.hid (hbad.out x ⟨qn, qo, qf, qc, qd, qk, qR, ql, qe⟩ true hg1.out hg2.out (.inr (decide_eq_false fun h => hqc h.2.2.2.1)))
            go_wp2
            exact bodyPost_ret (v := .tuple #[encStr [], .int .i64 4]) (by simp [results, Tryd.results10, go_sem]) rfl (ShP.of hE.out hN5.out)
        · have hE := Lib.hid (hbad.out x ⟨qn, qo, qf, qc, qd, qk, qR, ql, qe⟩ true hg1.out hg2.out (.inr (decide_eq_false fun h => hqf h.2.2.1)))
          go_wp2
          exact bodyPost_ret (v := .tuple #[encStr [], .int .i64 4]) (by simp [results, Tryd.results10, go_sem]) rfl (ShP.of hE.out hN5.out)
      · have hE := Lib.hid (hbad.out x ⟨qn, qo, qf, qc, qd, qk, qR, ql, qe⟩ true hg1.out hg2.out (.inr (decide_eq_false fun h => hqo h.2.1)))
        have hqob : (qo == []) = false := by simpa using hqo
        go_wp2
        exact bodyPost_ret (v := .tuple #[encStr [], .int .i64 4]) (by simp [results, Tryd.results10, go_sem]) rfl (ShP.of hE.out hN5.out)
    · have hE := Lib.hid (hbad.out x ⟨qn, qo, qf, qc, qd, qk, qR, ql, qe⟩ true hg1.out hg2.out (.inr (decide_eq_false fun h => hqn h.1)))
      have hqnb : (qn == []) = false := by simpa using hqn
      go_wp2
      exact bodyPost_ret (v := .tuple #[encStr [], .int .i64 4]) (by simp [results, Tryd.results10, go_sem]) rfl (ShP.of hE.out hN5.out)
theorem Shown_any (k : Int) (C : Cu) (f : Nat → Nat) (w : World) (hC : CuOk w f C) (hf : ∀ i, f i < 256) :
    Calls Tryd.prog 10 #[.agg (cuA k C)] w (ShP f k C w) := by
  obtain ⟨nm, ot, off, cnt, drv, kp, R, dn, dc⟩ := C
  by_cases hk : k < 1 ∨ 19 < k
  · exact shown_out nm ot off cnt drv kp R dn dc k f w hk
  · exact shown_in (k - 1).toNat (by omega) nm ot off cnt drv kp R dn dc k f w hC hf (by omega)
end Go.Proofs.YtaommipcdcncnaaDoor.desk
