/-
  Contract of the reference's lineOf: kinds 8 to 13.
-/
import Derived.Test.YtaommipcdcncnaaDoorDeskLineP
namespace Go.Proofs.YtaommipcdcncnaaDoor.desk
open Go.ChangeShapes Go.WideShapes Go.ChangeAt Go.RowKit Go.Proofs.YtaommipcdcncnaaDoor.kit Go.Deep
set_option linter.unusedVariables false
set_option linter.unusedSimpArgs false
set_option maxRecDepth 100000
set_option maxHeartbeats 1000000 in
theorem line_8 (nm ot : Tx) (off cnt drv kp : Int) (R : Option Addr) (dn dc : Nat) (f : Nat → Nat) (w : World) (hC : CuOk w f ⟨nm, ot, off, cnt, drv, kp, R, dn, dc⟩) (hf : ∀ i, f i < 256) :
    Calls Tryd.prog 27 #[.agg #[.int .i64 8, encStr nm, encStr ot, .int .i64 off, .int .i64 cnt, .int .i64 drv, .int .i64 kp, .slice R dn dc]] w (LnP f 7 ⟨nm, ot, off, cnt, drv, kp, R, dn, dc⟩ w) := by
  have hnl : nm.length ≤ 1048576 := hC.nl
  have hol : ot.length ≤ 1048576 := hC.ol
  obtain ⟨fo, hfo⟩ : ∃ l, Hid (l = Lib.itoa off) := ⟨_, rfl⟩
  have lfo : fo.length ≤ 21 := by rw [hfo.out]; exact itoa_len21 hC.o0 hC.o1
  have kfo : Hid (∀ w', Calls Tryd.prog 23 #[.int .i64 off] w' fun e w'' => e = .returned (encStr fo) ∧ w' = w'') := fun w' => by rw [hfo.out]; exact deci_any off hC.o0 hC.o1 w'
  obtain ⟨fc, hfc⟩ : ∃ l, Hid (l = Lib.itoa cnt) := ⟨_, rfl⟩
  have lfc : fc.length ≤ 21 := by rw [hfc.out]; exact itoa_len21 hC.c0 hC.c1
  have kfc : Hid (∀ w', Calls Tryd.prog 23 #[.int .i64 cnt] w' fun e w'' => e = .returned (encStr fc) ∧ w' = w'') := fun w' => by rw [hfc.out]; exact deci_any cnt hC.c0 hC.c1 w'
  have hmf : ∀ (fn : Fn) (first cap : Array Value) (w : World), (Instr.makeFunc fn first cap).run Tryd.prog w = .ok (.func fn first cap) w := fun _ _ _ _ => rfl
  obtain ⟨W2, hW2⟩ : ∃ W2, W2 = (w.alloc (.cells #[.int .i64 8, encStr nm, encStr ot, .int .i64 off, .int .i64 cnt, .int .i64 drv, .int .i64 kp, .slice R dn dc] 31)).alloc (.cells #[.int .i64 0, .string ⟨#[]⟩, .string ⟨#[]⟩, .int .i64 0, .int .i64 0, .int .i64 0, .int .i64 0, .slice none 0 0] 31) := ⟨_, rfl⟩
  obtain ⟨W3, hW3⟩ : ∃ W3, W3 = (W2.alloc (.cells #[.int .i64 0, .string ⟨nm.toArray⟩, .string ⟨ot.toArray⟩, .int .i64 off, .int .i64 cnt, .int .i64 drv, .int .i64 kp, .slice R dn dc] 31)).alloc (.cells #[.bool true] 4) := ⟨_, rfl⟩
  have hs2 : W2.heap.size = w.heap.size + 1 + 1 := by rw [hW2]; simp
  have hN2 : Hid (New w W2) := by show New _ _; rw [hW2]; exact ((New.refl w).alloc _).alloc _
  have hN3 : Hid (New W2 W3) := by show New _ _; rw [hW3]; exact ((New.refl W2).alloc _).alloc _
  have hR2 : Hid (Blk W2 (w.heap.size + 1) 31 #[.int .i64 0, .string ⟨#[]⟩, .string ⟨#[]⟩, .int .i64 0, .int .i64 0, .int .i64 0, .int .i64 0, .slice none 0 0]) := by
    show Blk _ _ _ _
    rw [hW2]
    have h := Blk.fresh (w.alloc (.cells #[.int .i64 8, encStr nm, encStr ot, .int .i64 off, .int .i64 cnt, .int .i64 drv, .int .i64 kp, .slice R dn dc] 31)) 31 #[.int .i64 0, .string ⟨#[]⟩, .string ⟨#[]⟩, .int .i64 0, .int .i64 0, .int .i64 0, .int .i64 0, .slice none 0 0]
    simpa using h
  have hQ3 : Hid (Blk W3 w.heap.size 31 #[.int .i64 8, encStr nm, encStr ot, .int .i64 off, .int .i64 cnt, .int .i64 drv, .int .i64 kp, .slice R dn dc]) := by
    show Blk _ _ _ _
    refine Blk.new ?_ hN3.out
    rw [hW2]
    exact (Blk.fresh w 31 _).alloc _
  have hP3 : Hid (Blk W3 (w.heap.size + 1 + 1) 31 #[.int .i64 0, .string ⟨nm.toArray⟩, .string ⟨ot.toArray⟩, .int .i64 off, .int .i64 cnt, .int .i64 drv, .int .i64 kp, .slice R dn dc]) := by
    show Blk _ _ _ _
    rw [hW3, ← hs2]
    exact (Blk.fresh W2 31 _).alloc _
  have hB3 : Hid (Blk W3 (w.heap.size + 1 + 1 + 1) 4 #[.bool true]) := by
    show Blk _ _ _ _
    rw [hW3, ← hs2]
    have h := Blk.fresh (W2.alloc (.cells #[.int .i64 0, .string ⟨nm.toArray⟩, .string ⟨ot.toArray⟩, .int .i64 off, .int .i64 cnt, .int .i64 drv, .int .i64 kp, .slice R dn dc] 31)) 4 #[.bool true]
    simpa using h
  have hcl : Hid (∀ w', New W3 w' → Calls Tryd.prog 47 #[.bool true, .bool true, .bool true, .bool true, .bool false, .bool false, .bool false, .pointer (some ⟨(w.heap.size + 1 + 1), 0, none⟩), .pointer (some ⟨(w.heap.size + 1 + 1 + 1), 0, none⟩), .pointer (some ⟨w.heap.size, 0, none⟩)] w' _) := fun w' hn => clear_nofc _ _ _ 8 ⟨nm, ot, off, cnt, drv, kp, R, dn, dc⟩ W2 w' (hP3.out.new hn) (hB3.out.new hn) (hQ3.out.new hn) (by omega) (hN3.out.next hn) (by omega) (by omega) hnl hol
  replace hC := Lib.hid hC
  go_enter Tryd.func27, Tryd.ntmps27
  go_upto_region 6 with (go_at_call 23; refine (kfo.out _).mono ?_; rintro e w9 ⟨rfl, rfl⟩)
  go_upto_region 9 with (go_at_call 23; refine (kfc.out _).mono ?_; rintro e w9 ⟨rfl, rfl⟩)
  rw [← hW2, ← hW3]
  clear hW2 hW3
  have q0 := hQ3.out.cell 0
  simp at q0
  go_upto_region 63 with (first
    | (go_at_call 47; refine (hcl.out _ (New.refl _)).mono ?_; rintro e w5 ⟨rfl, hP5, hB5, hN5⟩; have hP5 := Lib.hid hP5; have hB5 := Lib.hid hB5; have hN5 := Lib.hid hN5))
  have b0 : w5.cell? ⟨(w.heap.size + 1 + 1 + 1), 0, none⟩ = some (.bool (goodN nm && goodN ot)) := hB5.out.cell 0
  have hP5' : Hid (Blk w5 (w.heap.size + 1 + 1) 31 #[.int .i64 0, .string ⟨#[]⟩, .string ⟨#[]⟩, .int .i64 0, .int .i64 0, .int .i64 drv, .int .i64 kp, .slice R dn dc]) := hP5.out
  clear hP5 hB5 q0
  obtain ⟨bv, hbv⟩ : ∃ b, Hid (b = (goodN nm && goodN ot)) := ⟨(goodN nm && goodN ot), rfl⟩
  rw [← hbv.out] at b0
  have c0 := hP5'.out.cell 0
  have c1 := hP5'.out.cell 1
  have c2 := hP5'.out.cell 2
  have c3 := hP5'.out.cell 3
  have c4 := hP5'.out.cell 4
  have c5 := hP5'.out.cell 5
  have c6 := hP5'.out.cell 6
  have c7 := hP5'.out.cell 7
  have hR5 := Lib.hid (hR2.out.new hN5.out)
  have r0 := hR5.out.cell 0
  have z0 := hR5.out.frozen 0
  have r1 := hR5.out.cell 1
  have z1 := hR5.out.frozen 1
  have r2 := hR5.out.cell 2
  have z2 := hR5.out.frozen 2
  have r3 := hR5.out.cell 3
  have z3 := hR5.out.frozen 3
  have r4 := hR5.out.cell 4
  have z4 := hR5.out.frozen 4
  have r5 := hR5.out.cell 5
  have z5 := hR5.out.frozen 5
  have r6 := hR5.out.cell 6
  have z6 := hR5.out.frozen 6
  have r7 := hR5.out.cell 7
  have z7 := hR5.out.frozen 7
  simp at c0 r0 c1 r1 c2 r2 c3 r3 c4 r4 c5 r5 c6 r6 c7 r7
  go_region
  obtain ⟨W6, hW6⟩ : ∃ W6, W6 = ((((((((w5.setCell ⟨(w.heap.size + 1), 0, none⟩ (.int .i64 0)).setCell ⟨(w.heap.size + 1), 1, none⟩ (.string ⟨#[]⟩)).setCell ⟨(w.heap.size + 1), 2, none⟩ (.string ⟨#[]⟩)).setCell ⟨(w.heap.size + 1), 3, none⟩ (.int .i64 0)).setCell ⟨(w.heap.size + 1), 4, none⟩ (.int .i64 0)).setCell ⟨(w.heap.size + 1), 5, none⟩ (.int .i64 drv)).setCell ⟨(w.heap.size + 1), 6, none⟩ (.int .i64 kp)).setCell ⟨(w.heap.size + 1), 7, none⟩ (.slice R dn dc)).drew := ⟨_, rfl⟩
  have hR6 : Hid (Blk W6 (w.heap.size + 1) 31 #[.int .i64 0, .string ⟨#[]⟩, .string ⟨#[]⟩, .int .i64 0, .int .i64 0, .int .i64 drv, .int .i64 kp, .slice R dn dc]) := by
    show Blk _ _ _ _
    rw [hW6]
    refine Blk.drew ?_
    have h := ((((((((hR5.out.put 0 (.int .i64 0)).put 1 (.string ⟨#[]⟩)).put 2 (.string ⟨#[]⟩)).put 3 (.int .i64 0)).put 4 (.int .i64 0)).put 5 (.int .i64 drv)).put 6 (.int .i64 kp)).put 7 (.slice R dn dc))
    simpa using h
  have hN6 : Hid (New w W6) := by
    show New _ _
    rw [hW6]
    exact (((((((((hN2.out.next hN5.out).set (p := ⟨(w.heap.size + 1), 0, none⟩) (by dsimp only; omega) (.int .i64 0)).set (p := ⟨(w.heap.size + 1), 1, none⟩) (by dsimp only; omega) (.string ⟨#[]⟩)).set (p := ⟨(w.heap.size + 1), 2, none⟩) (by dsimp only; omega) (.string ⟨#[]⟩)).set (p := ⟨(w.heap.size + 1), 3, none⟩) (by dsimp only; omega) (.int .i64 0)).set (p := ⟨(w.heap.size + 1), 4, none⟩) (by dsimp only; omega) (.int .i64 0)).set (p := ⟨(w.heap.size + 1), 5, none⟩) (by dsimp only; omega) (.int .i64 drv)).set (p := ⟨(w.heap.size + 1), 6, none⟩) (by dsimp only; omega) (.int .i64 kp)).set (p := ⟨(w.heap.size + 1), 7, none⟩) (by dsimp only; omega) (.slice R dn dc)).drewN 1
  rw [← hW6]
  clear hW6 c0 r0 z0 c1 r1 z1 c2 r2 z2 c3 r3 z3 c4 r4 z4 c5 r5 z5 c6 r6 z6 c7 r7 z7 b0
  have f0 := hR6.out.cell 0
  have f1 := hR6.out.cell 1
  have f2 := hR6.out.cell 2
  have f3 := hR6.out.cell 3
  have f4 := hR6.out.cell 4
  have f5 := hR6.out.cell 5
  have f6 := hR6.out.cell 6
  have f7 := hR6.out.cell 7
  simp at f0 f1 f2 f3 f4 f5 f6 f7
  have hline : (((((⟨#[108, 111, 111, 107]⟩ : ByteArray) ++ ((⟨#[32]⟩ : ByteArray) ++ ⟨ot.toArray⟩)) ++ ((⟨#[32]⟩ : ByteArray) ++ ⟨nm.toArray⟩)) ++ ((⟨#[32]⟩ : ByteArray) ++ ⟨fo.toArray⟩)) ++ ((⟨#[32]⟩ : ByteArray) ++ ⟨fc.toArray⟩)) = ⟨((((([108, 111, 111, 107] ++ ([32] ++ ot)) ++ ([32] ++ nm)) ++ ([32] ++ fo)) ++ ([32] ++ fc)) : Tx).toArray⟩ := by
    show (((((⟨[108, 111, 111, 107].toArray⟩ : ByteArray) ++ ((⟨[32].toArray⟩ : ByteArray) ++ ⟨ot.toArray⟩)) ++ ((⟨[32].toArray⟩ : ByteArray) ++ ⟨nm.toArray⟩)) ++ ((⟨[32].toArray⟩ : ByteArray) ++ ⟨fo.toArray⟩)) ++ ((⟨[32].toArray⟩ : ByteArray) ++ ⟨fc.toArray⟩)) = _
    simp only [ByteArray.mk_append_mk]
  go_wp2
  refine bodyPost_ret (v := .tuple #[.string (((((⟨#[108, 111, 111, 107]⟩ : ByteArray) ++ ((⟨#[32]⟩ : ByteArray) ++ ⟨ot.toArray⟩)) ++ ((⟨#[32]⟩ : ByteArray) ++ ⟨nm.toArray⟩)) ++ ((⟨#[32]⟩ : ByteArray) ++ ⟨fo.toArray⟩)) ++ ((⟨#[32]⟩ : ByteArray) ++ ⟨fc.toArray⟩)), .agg #[.int .i64 0, .string ⟨#[]⟩, .string ⟨#[]⟩, .int .i64 0, .int .i64 0, .int .i64 drv, .int .i64 kp, .slice R dn dc], .bool bv]) (by simp [results, Tryd.results27, go_sem, f0, f1, f2, f3, f4, f5, f6, f7]) rfl ⟨(((([108, 111, 111, 107] ++ ([32] ++ ot)) ++ ([32] ++ nm)) ++ ([32] ++ fo)) ++ ([32] ++ fc)), ⟨[], [], 0, 0, drv, kp, R, dn, dc⟩, bv, congrArg (fun s => Ending.returned (.tuple #[.string s, .agg #[.int .i64 0, .string ⟨#[]⟩, .string ⟨#[]⟩, .int .i64 0, .int .i64 0, .int .i64 drv, .int .i64 kp, .slice R dn dc], .bool bv])) hline, hN6.out, fun hb => ⟨[ot, nm, fo, fc], ?_, ?_⟩, fun hb => ?_⟩
  · rw [hbv.out] at hb
    rw [hfo.out]; rw [hfc.out]; show goS f [111, 110, 102, 99] _ = _
    simp only [Bool.and_eq_true] at hb
    simp [goS, badS, hb, clr, part]
  · show _ = [108, 111, 111, 107] ++ tailT [ot, nm, fo, fc]
    simp [Lib.joinTail]
  · rw [hbv.out] at hb
    show goS f [111, 110, 102, 99] _ = _
    cases hg1 : goodN nm <;> cases hg2 : goodN ot <;> simp [hg1, hg2] at hb <;> simp [goS, badS, hg1, hg2, clr, part]
set_option maxHeartbeats 1000000 in
theorem line_9 (nm ot : Tx) (off cnt drv kp : Int) (R : Option Addr) (dn dc : Nat) (f : Nat → Nat) (w : World) (hC : CuOk w f ⟨nm, ot, off, cnt, drv, kp, R, dn, dc⟩) (hf : ∀ i, f i < 256) :
    Calls Tryd.prog 27 #[.agg #[.int .i64 9, encStr nm, encStr ot, .int .i64 off, .int .i64 cnt, .int .i64 drv, .int .i64 kp, .slice R dn dc]] w (LnP f 8 ⟨nm, ot, off, cnt, drv, kp, R, dn, dc⟩ w) := by
  have hnl : nm.length ≤ 1048576 := hC.nl
  have hol : ot.length ≤ 1048576 := hC.ol
  obtain ⟨fo, hfo⟩ : ∃ l, Hid (l = Lib.itoa off) := ⟨_, rfl⟩
  have lfo : fo.length ≤ 21 := by rw [hfo.out]; exact itoa_len21 hC.o0 hC.o1
  have kfo : Hid (∀ w', Calls Tryd.prog 23 #[.int .i64 off] w' fun e w'' => e = .returned (encStr fo) ∧ w' = w'') := fun w' => by rw [hfo.out]; exact deci_any off hC.o0 hC.o1 w'
  obtain ⟨fc, hfc⟩ : ∃ l, Hid (l = Lib.itoa cnt) := ⟨_, rfl⟩
  have lfc : fc.length ≤ 21 := by rw [hfc.out]; exact itoa_len21 hC.c0 hC.c1
  have kfc : Hid (∀ w', Calls Tryd.prog 23 #[.int .i64 cnt] w' fun e w'' => e = .returned (encStr fc) ∧ w' = w'') := fun w' => by rw [hfc.out]; exact deci_any cnt hC.c0 hC.c1 w'
  have hmf : ∀ (fn : Fn) (first cap : Array Value) (w : World), (Instr.makeFunc fn first cap).run Tryd.prog w = .ok (.func fn first cap) w := fun _ _ _ _ => rfl
  obtain ⟨W2, hW2⟩ : ∃ W2, W2 = (w.alloc (.cells #[.int .i64 9, encStr nm, encStr ot, .int .i64 off, .int .i64 cnt, .int .i64 drv, .int .i64 kp, .slice R dn dc] 31)).alloc (.cells #[.int .i64 0, .string ⟨#[]⟩, .string ⟨#[]⟩, .int .i64 0, .int .i64 0, .int .i64 0, .int .i64 0, .slice none 0 0] 31) := ⟨_, rfl⟩
  obtain ⟨W3, hW3⟩ : ∃ W3, W3 = (W2.alloc (.cells #[.int .i64 0, .string ⟨nm.toArray⟩, .string ⟨ot.toArray⟩, .int .i64 off, .int .i64 cnt, .int .i64 drv, .int .i64 kp, .slice R dn dc] 31)).alloc (.cells #[.bool true] 4) := ⟨_, rfl⟩
  have hs2 : W2.heap.size = w.heap.size + 1 + 1 := by rw [hW2]; simp
  have hN2 : Hid (New w W2) := by show New _ _; rw [hW2]; exact ((New.refl w).alloc _).alloc _
  have hN3 : Hid (New W2 W3) := by show New _ _; rw [hW3]; exact ((New.refl W2).alloc _).alloc _
  have hR2 : Hid (Blk W2 (w.heap.size + 1) 31 #[.int .i64 0, .string ⟨#[]⟩, .string ⟨#[]⟩, .int .i64 0, .int .i64 0, .int .i64 0, .int .i64 0, .slice none 0 0]) := by
    show Blk _ _ _ _
    rw [hW2]
    have h := Blk.fresh (w.alloc (.cells #[.int .i64 9, encStr nm, encStr ot, .int .i64 off, .int .i64 cnt, .int .i64 drv, .int .i64 kp, .slice R dn dc] 31)) 31 #[.int .i64 0, .string ⟨#[]⟩, .string ⟨#[]⟩, .int .i64 0, .int .i64 0, .int .i64 0, .int .i64 0, .slice none 0 0]
    simpa using h
  have hQ3 : Hid (Blk W3 w.heap.size 31 #[.int .i64 9, encStr nm, encStr ot, .int .i64 off, .int .i64 cnt, .int .i64 drv, .int .i64 kp, .slice R dn dc]) := by
    show Blk _ _ _ _
    refine Blk.new ?_ hN3.out
    rw [hW2]
    exact (Blk.fresh w 31 _).alloc _
  have hP3 : Hid (Blk W3 (w.heap.size + 1 + 1) 31 #[.int .i64 0, .string ⟨nm.toArray⟩, .string ⟨ot.toArray⟩, .int .i64 off, .int .i64 cnt, .int .i64 drv, .int .i64 kp, .slice R dn dc]) := by
    show Blk _ _ _ _
    rw [hW3, ← hs2]
    exact (Blk.fresh W2 31 _).alloc _
  have hB3 : Hid (Blk W3 (w.heap.size + 1 + 1 + 1) 4 #[.bool true]) := by
    show Blk _ _ _ _
    rw [hW3, ← hs2]
    have h := Blk.fresh (W2.alloc (.cells #[.int .i64 0, .string ⟨nm.toArray⟩, .string ⟨ot.toArray⟩, .int .i64 off, .int .i64 cnt, .int .i64 drv, .int .i64 kp, .slice R dn dc] 31)) 4 #[.bool true]
    simpa using h
  have hcl : Hid (∀ w', New W3 w' → Calls Tryd.prog 47 #[.bool false, .bool true, .bool false, .bool false, .bool false, .bool false, .bool false, .pointer (some ⟨(w.heap.size + 1 + 1), 0, none⟩), .pointer (some ⟨(w.heap.size + 1 + 1 + 1), 0, none⟩), .pointer (some ⟨w.heap.size, 0, none⟩)] w' _) := fun w' hn => clear_o _ _ _ 9 ⟨nm, ot, off, cnt, drv, kp, R, dn, dc⟩ W2 w' (hP3.out.new hn) (hB3.out.new hn) (hQ3.out.new hn) (by omega) (hN3.out.next hn) (by omega) (by omega) hnl hol
  replace hC := Lib.hid hC
  go_enter Tryd.func27, Tryd.ntmps27
  go_upto_region 6 with (go_at_call 23; refine (kfo.out _).mono ?_; rintro e w9 ⟨rfl, rfl⟩)
  go_upto_region 9 with (go_at_call 23; refine (kfc.out _).mono ?_; rintro e w9 ⟨rfl, rfl⟩)
  rw [← hW2, ← hW3]
  clear hW2 hW3
  have q0 := hQ3.out.cell 0
  simp at q0
  go_upto_region 63 with (first
    | (go_at_call 47; refine (hcl.out _ (New.refl _)).mono ?_; rintro e w5 ⟨rfl, hP5, hB5, hN5⟩; have hP5 := Lib.hid hP5; have hB5 := Lib.hid hB5; have hN5 := Lib.hid hN5))
  have b0 : w5.cell? ⟨(w.heap.size + 1 + 1 + 1), 0, none⟩ = some (.bool (goodN ot)) := hB5.out.cell 0
  have hP5' : Hid (Blk w5 (w.heap.size + 1 + 1) 31 #[.int .i64 0, .string ⟨nm.toArray⟩, .string ⟨#[]⟩, .int .i64 off, .int .i64 cnt, .int .i64 drv, .int .i64 kp, .slice R dn dc]) := hP5.out
  clear hP5 hB5 q0
  obtain ⟨bv, hbv⟩ : ∃ b, Hid (b = (goodN ot)) := ⟨(goodN ot), rfl⟩
  rw [← hbv.out] at b0
  have c0 := hP5'.out.cell 0
  have c1 := hP5'.out.cell 1
  have c2 := hP5'.out.cell 2
  have c3 := hP5'.out.cell 3
  have c4 := hP5'.out.cell 4
  have c5 := hP5'.out.cell 5
  have c6 := hP5'.out.cell 6
  have c7 := hP5'.out.cell 7
  have hR5 := Lib.hid (hR2.out.new hN5.out)
  have r0 := hR5.out.cell 0
  have z0 := hR5.out.frozen 0
  have r1 := hR5.out.cell 1
  have z1 := hR5.out.frozen 1
  have r2 := hR5.out.cell 2
  have z2 := hR5.out.frozen 2
  have r3 := hR5.out.cell 3
  have z3 := hR5.out.frozen 3
  have r4 := hR5.out.cell 4
  have z4 := hR5.out.frozen 4
  have r5 := hR5.out.cell 5
  have z5 := hR5.out.frozen 5
  have r6 := hR5.out.cell 6
  have z6 := hR5.out.frozen 6
  have r7 := hR5.out.cell 7
  have z7 := hR5.out.frozen 7
  simp at c0 r0 c1 r1 c2 r2 c3 r3 c4 r4 c5 r5 c6 r6 c7 r7
  go_region
  obtain ⟨W6, hW6⟩ : ∃ W6, W6 = ((((((((w5.setCell ⟨(w.heap.size + 1), 0, none⟩ (.int .i64 0)).setCell ⟨(w.heap.size + 1), 1, none⟩ (.string ⟨nm.toArray⟩)).setCell ⟨(w.heap.size + 1), 2, none⟩ (.string ⟨#[]⟩)).setCell ⟨(w.heap.size + 1), 3, none⟩ (.int .i64 off)).setCell ⟨(w.heap.size + 1), 4, none⟩ (.int .i64 cnt)).setCell ⟨(w.heap.size + 1), 5, none⟩ (.int .i64 drv)).setCell ⟨(w.heap.size + 1), 6, none⟩ (.int .i64 kp)).setCell ⟨(w.heap.size + 1), 7, none⟩ (.slice R dn dc)).drew := ⟨_, rfl⟩
  have hR6 : Hid (Blk W6 (w.heap.size + 1) 31 #[.int .i64 0, .string ⟨nm.toArray⟩, .string ⟨#[]⟩, .int .i64 off, .int .i64 cnt, .int .i64 drv, .int .i64 kp, .slice R dn dc]) := by
    show Blk _ _ _ _
    rw [hW6]
    refine Blk.drew ?_
    have h := ((((((((hR5.out.put 0 (.int .i64 0)).put 1 (.string ⟨nm.toArray⟩)).put 2 (.string ⟨#[]⟩)).put 3 (.int .i64 off)).put 4 (.int .i64 cnt)).put 5 (.int .i64 drv)).put 6 (.int .i64 kp)).put 7 (.slice R dn dc))
    simpa using h
  have hN6 : Hid (New w W6) := by
    show New _ _
    rw [hW6]
    exact (((((((((hN2.out.next hN5.out).set (p := ⟨(w.heap.size + 1), 0, none⟩) (by dsimp only; omega) (.int .i64 0)).set (p := ⟨(w.heap.size + 1), 1, none⟩) (by dsimp only; omega) (.string ⟨nm.toArray⟩)).set (p := ⟨(w.heap.size + 1), 2, none⟩) (by dsimp only; omega) (.string ⟨#[]⟩)).set (p := ⟨(w.heap.size + 1), 3, none⟩) (by dsimp only; omega) (.int .i64 off)).set (p := ⟨(w.heap.size + 1), 4, none⟩) (by dsimp only; omega) (.int .i64 cnt)).set (p := ⟨(w.heap.size + 1), 5, none⟩) (by dsimp only; omega) (.int .i64 drv)).set (p := ⟨(w.heap.size + 1), 6, none⟩) (by dsimp only; omega) (.int .i64 kp)).set (p := ⟨(w.heap.size + 1), 7, none⟩) (by dsimp only; omega) (.slice R dn dc)).drewN 1
  rw [← hW6]
  clear hW6 c0 r0 z0 c1 r1 z1 c2 r2 z2 c3 r3 z3 c4 r4 z4 c5 r5 z5 c6 r6 z6 c7 r7 z7 b0
  have f0 := hR6.out.cell 0
  have f1 := hR6.out.cell 1
  have f2 := hR6.out.cell 2
  have f3 := hR6.out.cell 3
  have f4 := hR6.out.cell 4
  have f5 := hR6.out.cell 5
  have f6 := hR6.out.cell 6
  have f7 := hR6.out.cell 7
  simp at f0 f1 f2 f3 f4 f5 f6 f7
  have hline : ((⟨#[98, 97, 99, 107]⟩ : ByteArray) ++ ((⟨#[32]⟩ : ByteArray) ++ ⟨ot.toArray⟩)) = ⟨(([98, 97, 99, 107] ++ ([32] ++ ot)) : Tx).toArray⟩ := by
    show ((⟨[98, 97, 99, 107].toArray⟩ : ByteArray) ++ ((⟨[32].toArray⟩ : ByteArray) ++ ⟨ot.toArray⟩)) = _
    simp only [ByteArray.mk_append_mk]
  go_wp2
  refine bodyPost_ret (v := .tuple #[.string ((⟨#[98, 97, 99, 107]⟩ : ByteArray) ++ ((⟨#[32]⟩ : ByteArray) ++ ⟨ot.toArray⟩)), .agg #[.int .i64 0, .string ⟨nm.toArray⟩, .string ⟨#[]⟩, .int .i64 off, .int .i64 cnt, .int .i64 drv, .int .i64 kp, .slice R dn dc], .bool bv]) (by simp [results, Tryd.results27, go_sem, f0, f1, f2, f3, f4, f5, f6, f7]) rfl ⟨([98, 97, 99, 107] ++ ([32] ++ ot)), ⟨nm, [], off, cnt, drv, kp, R, dn, dc⟩, bv, congrArg (fun s => Ending.returned (.tuple #[.string s, .agg #[.int .i64 0, .string ⟨nm.toArray⟩, .string ⟨#[]⟩, .int .i64 off, .int .i64 cnt, .int .i64 drv, .int .i64 kp, .slice R dn dc], .bool bv])) hline, hN6.out, fun hb => ⟨[ot], ?_, ?_⟩, fun hb => ?_⟩
  · rw [hbv.out] at hb
    show goS f [111] _ = _
    skip
    simp [goS, badS, hb, clr, part]
  · show _ = [98, 97, 99, 107] ++ tailT [ot]
    simp [Lib.joinTail]
  · rw [hbv.out] at hb
    show goS f [111] _ = _
    simp [goS, badS, hb, clr, part]
set_option maxHeartbeats 1000000 in
theorem line_10 (nm ot : Tx) (off cnt drv kp : Int) (R : Option Addr) (dn dc : Nat) (f : Nat → Nat) (w : World) (hC : CuOk w f ⟨nm, ot, off, cnt, drv, kp, R, dn, dc⟩) (hf : ∀ i, f i < 256) :
    Calls Tryd.prog 27 #[.agg #[.int .i64 10, encStr nm, encStr ot, .int .i64 off, .int .i64 cnt, .int .i64 drv, .int .i64 kp, .slice R dn dc]] w (LnP f 9 ⟨nm, ot, off, cnt, drv, kp, R, dn, dc⟩ w) := by
  have hnl : nm.length ≤ 1048576 := hC.nl
  have hol : ot.length ≤ 1048576 := hC.ol
  obtain ⟨fo, hfo⟩ : ∃ l, Hid (l = Lib.itoa off) := ⟨_, rfl⟩
  have lfo : fo.length ≤ 21 := by rw [hfo.out]; exact itoa_len21 hC.o0 hC.o1
  have kfo : Hid (∀ w', Calls Tryd.prog 23 #[.int .i64 off] w' fun e w'' => e = .returned (encStr fo) ∧ w' = w'') := fun w' => by rw [hfo.out]; exact deci_any off hC.o0 hC.o1 w'
  obtain ⟨fc, hfc⟩ : ∃ l, Hid (l = Lib.itoa cnt) := ⟨_, rfl⟩
  have lfc : fc.length ≤ 21 := by rw [hfc.out]; exact itoa_len21 hC.c0 hC.c1
  have kfc : Hid (∀ w', Calls Tryd.prog 23 #[.int .i64 cnt] w' fun e w'' => e = .returned (encStr fc) ∧ w' = w'') := fun w' => by rw [hfc.out]; exact deci_any cnt hC.c0 hC.c1 w'
  have hmf : ∀ (fn : Fn) (first cap : Array Value) (w : World), (Instr.makeFunc fn first cap).run Tryd.prog w = .ok (.func fn first cap) w := fun _ _ _ _ => rfl
  obtain ⟨W2, hW2⟩ : ∃ W2, W2 = (w.alloc (.cells #[.int .i64 10, encStr nm, encStr ot, .int .i64 off, .int .i64 cnt, .int .i64 drv, .int .i64 kp, .slice R dn dc] 31)).alloc (.cells #[.int .i64 0, .string ⟨#[]⟩, .string ⟨#[]⟩, .int .i64 0, .int .i64 0, .int .i64 0, .int .i64 0, .slice none 0 0] 31) := ⟨_, rfl⟩
  obtain ⟨W3, hW3⟩ : ∃ W3, W3 = (W2.alloc (.cells #[.int .i64 0, .string ⟨nm.toArray⟩, .string ⟨ot.toArray⟩, .int .i64 off, .int .i64 cnt, .int .i64 drv, .int .i64 kp, .slice R dn dc] 31)).alloc (.cells #[.bool true] 4) := ⟨_, rfl⟩
  have hs2 : W2.heap.size = w.heap.size + 1 + 1 := by rw [hW2]; simp
  have hN2 : Hid (New w W2) := by show New _ _; rw [hW2]; exact ((New.refl w).alloc _).alloc _
  have hN3 : Hid (New W2 W3) := by show New _ _; rw [hW3]; exact ((New.refl W2).alloc _).alloc _
  have hR2 : Hid (Blk W2 (w.heap.size + 1) 31 #[.int .i64 0, .string ⟨#[]⟩, .string ⟨#[]⟩, .int .i64 0, .int .i64 0, .int .i64 0, .int .i64 0, .slice none 0 0]) := by
    show Blk _ _ _ _
    rw [hW2]
    have h := Blk.fresh (w.alloc (.cells #[.int .i64 10, encStr nm, encStr ot, .int .i64 off, .int .i64 cnt, .int .i64 drv, .int .i64 kp, .slice R dn dc] 31)) 31 #[.int .i64 0, .string ⟨#[]⟩, .string ⟨#[]⟩, .int .i64 0, .int .i64 0, .int .i64 0, .int .i64 0, .slice none 0 0]
    simpa using h
  have hQ3 : Hid (Blk W3 w.heap.size 31 #[.int .i64 10, encStr nm, encStr ot, .int .i64 off, .int .i64 cnt, .int .i64 drv, .int .i64 kp, .slice R dn dc]) := by
    show Blk _ _ _ _
    refine Blk.new ?_ hN3.out
    rw [hW2]
    exact (Blk.fresh w 31 _).alloc _
  have hP3 : Hid (Blk W3 (w.heap.size + 1 + 1) 31 #[.int .i64 0, .string ⟨nm.toArray⟩, .string ⟨ot.toArray⟩, .int .i64 off, .int .i64 cnt, .int .i64 drv, .int .i64 kp, .slice R dn dc]) := by
    show Blk _ _ _ _
    rw [hW3, ← hs2]
    exact (Blk.fresh W2 31 _).alloc _
  have hB3 : Hid (Blk W3 (w.heap.size + 1 + 1 + 1) 4 #[.bool true]) := by
    show Blk _ _ _ _
    rw [hW3, ← hs2]
    have h := Blk.fresh (W2.alloc (.cells #[.int .i64 0, .string ⟨nm.toArray⟩, .string ⟨ot.toArray⟩, .int .i64 off, .int .i64 cnt, .int .i64 drv, .int .i64 kp, .slice R dn dc] 31)) 4 #[.bool true]
    simpa using h
  have hcl : Hid (∀ w', New W3 w' → Calls Tryd.prog 47 #[.bool false, .bool true, .bool false, .bool false, .bool false, .bool false, .bool false, .pointer (some ⟨(w.heap.size + 1 + 1), 0, none⟩), .pointer (some ⟨(w.heap.size + 1 + 1 + 1), 0, none⟩), .pointer (some ⟨w.heap.size, 0, none⟩)] w' _) := fun w' hn => clear_o _ _ _ 10 ⟨nm, ot, off, cnt, drv, kp, R, dn, dc⟩ W2 w' (hP3.out.new hn) (hB3.out.new hn) (hQ3.out.new hn) (by omega) (hN3.out.next hn) (by omega) (by omega) hnl hol
  replace hC := Lib.hid hC
  go_enter Tryd.func27, Tryd.ntmps27
  go_upto_region 6 with (go_at_call 23; refine (kfo.out _).mono ?_; rintro e w9 ⟨rfl, rfl⟩)
  go_upto_region 9 with (go_at_call 23; refine (kfc.out _).mono ?_; rintro e w9 ⟨rfl, rfl⟩)
  rw [← hW2, ← hW3]
  clear hW2 hW3
  have q0 := hQ3.out.cell 0
  simp at q0
  go_upto_region 63 with (first
    | (go_at_call 47; refine (hcl.out _ (New.refl _)).mono ?_; rintro e w5 ⟨rfl, hP5, hB5, hN5⟩; have hP5 := Lib.hid hP5; have hB5 := Lib.hid hB5; have hN5 := Lib.hid hN5))
  have b0 : w5.cell? ⟨(w.heap.size + 1 + 1 + 1), 0, none⟩ = some (.bool (goodN ot)) := hB5.out.cell 0
  have hP5' : Hid (Blk w5 (w.heap.size + 1 + 1) 31 #[.int .i64 0, .string ⟨nm.toArray⟩, .string ⟨#[]⟩, .int .i64 off, .int .i64 cnt, .int .i64 drv, .int .i64 kp, .slice R dn dc]) := hP5.out
  clear hP5 hB5 q0
  obtain ⟨bv, hbv⟩ : ∃ b, Hid (b = (goodN ot)) := ⟨(goodN ot), rfl⟩
  rw [← hbv.out] at b0
  have c0 := hP5'.out.cell 0
  have c1 := hP5'.out.cell 1
  have c2 := hP5'.out.cell 2
  have c3 := hP5'.out.cell 3
  have c4 := hP5'.out.cell 4
  have c5 := hP5'.out.cell 5
  have c6 := hP5'.out.cell 6
  have c7 := hP5'.out.cell 7
  have hR5 := Lib.hid (hR2.out.new hN5.out)
  have r0 := hR5.out.cell 0
  have z0 := hR5.out.frozen 0
  have r1 := hR5.out.cell 1
  have z1 := hR5.out.frozen 1
  have r2 := hR5.out.cell 2
  have z2 := hR5.out.frozen 2
  have r3 := hR5.out.cell 3
  have z3 := hR5.out.frozen 3
  have r4 := hR5.out.cell 4
  have z4 := hR5.out.frozen 4
  have r5 := hR5.out.cell 5
  have z5 := hR5.out.frozen 5
  have r6 := hR5.out.cell 6
  have z6 := hR5.out.frozen 6
  have r7 := hR5.out.cell 7
  have z7 := hR5.out.frozen 7
  simp at c0 r0 c1 r1 c2 r2 c3 r3 c4 r4 c5 r5 c6 r6 c7 r7
  go_region
  obtain ⟨W6, hW6⟩ : ∃ W6, W6 = ((((((((w5.setCell ⟨(w.heap.size + 1), 0, none⟩ (.int .i64 0)).setCell ⟨(w.heap.size + 1), 1, none⟩ (.string ⟨nm.toArray⟩)).setCell ⟨(w.heap.size + 1), 2, none⟩ (.string ⟨#[]⟩)).setCell ⟨(w.heap.size + 1), 3, none⟩ (.int .i64 off)).setCell ⟨(w.heap.size + 1), 4, none⟩ (.int .i64 cnt)).setCell ⟨(w.heap.size + 1), 5, none⟩ (.int .i64 drv)).setCell ⟨(w.heap.size + 1), 6, none⟩ (.int .i64 kp)).setCell ⟨(w.heap.size + 1), 7, none⟩ (.slice R dn dc)).drew := ⟨_, rfl⟩
  have hR6 : Hid (Blk W6 (w.heap.size + 1) 31 #[.int .i64 0, .string ⟨nm.toArray⟩, .string ⟨#[]⟩, .int .i64 off, .int .i64 cnt, .int .i64 drv, .int .i64 kp, .slice R dn dc]) := by
    show Blk _ _ _ _
    rw [hW6]
    refine Blk.drew ?_
    have h := ((((((((hR5.out.put 0 (.int .i64 0)).put 1 (.string ⟨nm.toArray⟩)).put 2 (.string ⟨#[]⟩)).put 3 (.int .i64 off)).put 4 (.int .i64 cnt)).put 5 (.int .i64 drv)).put 6 (.int .i64 kp)).put 7 (.slice R dn dc))
    simpa using h
  have hN6 : Hid (New w W6) := by
    show New _ _
    rw [hW6]
    exact (((((((((hN2.out.next hN5.out).set (p := ⟨(w.heap.size + 1), 0, none⟩) (by dsimp only; omega) (.int .i64 0)).set (p := ⟨(w.heap.size + 1), 1, none⟩) (by dsimp only; omega) (.string ⟨nm.toArray⟩)).set (p := ⟨(w.heap.size + 1), 2, none⟩) (by dsimp only; omega) (.string ⟨#[]⟩)).set (p := ⟨(w.heap.size + 1), 3, none⟩) (by dsimp only; omega) (.int .i64 off)).set (p := ⟨(w.heap.size + 1), 4, none⟩) (by dsimp only; omega) (.int .i64 cnt)).set (p := ⟨(w.heap.size + 1), 5, none⟩) (by dsimp only; omega) (.int .i64 drv)).set (p := ⟨(w.heap.size + 1), 6, none⟩) (by dsimp only; omega) (.int .i64 kp)).set (p := ⟨(w.heap.size + 1), 7, none⟩) (by dsimp only; omega) (.slice R dn dc)).drewN 1
  rw [← hW6]
  clear hW6 c0 r0 z0 c1 r1 z1 c2 r2 z2 c3 r3 z3 c4 r4 z4 c5 r5 z5 c6 r6 z6 c7 r7 z7 b0
  have f0 := hR6.out.cell 0
  have f1 := hR6.out.cell 1
  have f2 := hR6.out.cell 2
  have f3 := hR6.out.cell 3
  have f4 := hR6.out.cell 4
  have f5 := hR6.out.cell 5
  have f6 := hR6.out.cell 6
  have f7 := hR6.out.cell 7
  simp at f0 f1 f2 f3 f4 f5 f6 f7
  have hline : ((⟨#[117, 110, 115, 110, 97, 112]⟩ : ByteArray) ++ ((⟨#[32]⟩ : ByteArray) ++ ⟨ot.toArray⟩)) = ⟨(([117, 110, 115, 110, 97, 112] ++ ([32] ++ ot)) : Tx).toArray⟩ := by
    show ((⟨[117, 110, 115, 110, 97, 112].toArray⟩ : ByteArray) ++ ((⟨[32].toArray⟩ : ByteArray) ++ ⟨ot.toArray⟩)) = _
    simp only [ByteArray.mk_append_mk]
  go_wp2
  refine bodyPost_ret (v := .tuple #[.string ((⟨#[117, 110, 115, 110, 97, 112]⟩ : ByteArray) ++ ((⟨#[32]⟩ : ByteArray) ++ ⟨ot.toArray⟩)), .agg #[.int .i64 0, .string ⟨nm.toArray⟩, .string ⟨#[]⟩, .int .i64 off, .int .i64 cnt, .int .i64 drv, .int .i64 kp, .slice R dn dc], .bool bv]) (by simp [results, Tryd.results27, go_sem, f0, f1, f2, f3, f4, f5, f6, f7]) rfl ⟨([117, 110, 115, 110, 97, 112] ++ ([32] ++ ot)), ⟨nm, [], off, cnt, drv, kp, R, dn, dc⟩, bv, congrArg (fun s => Ending.returned (.tuple #[.string s, .agg #[.int .i64 0, .string ⟨nm.toArray⟩, .string ⟨#[]⟩, .int .i64 off, .int .i64 cnt, .int .i64 drv, .int .i64 kp, .slice R dn dc], .bool bv])) hline, hN6.out, fun hb => ⟨[ot], ?_, ?_⟩, fun hb => ?_⟩
  · rw [hbv.out] at hb
    show goS f [111] _ = _
    skip
    simp [goS, badS, hb, clr, part]
  · show _ = [117, 110, 115, 110, 97, 112] ++ tailT [ot]
    simp [Lib.joinTail]
  · rw [hbv.out] at hb
    show goS f [111] _ = _
    simp [goS, badS, hb, clr, part]
set_option maxHeartbeats 1000000 in
theorem line_11 (nm ot : Tx) (off cnt drv kp : Int) (R : Option Addr) (dn dc : Nat) (f : Nat → Nat) (w : World) (hC : CuOk w f ⟨nm, ot, off, cnt, drv, kp, R, dn, dc⟩) (hf : ∀ i, f i < 256) :
    Calls Tryd.prog 27 #[.agg #[.int .i64 11, encStr nm, encStr ot, .int .i64 off, .int .i64 cnt, .int .i64 drv, .int .i64 kp, .slice R dn dc]] w (LnP f 10 ⟨nm, ot, off, cnt, drv, kp, R, dn, dc⟩ w) := by
  have hnl : nm.length ≤ 1048576 := hC.nl
  have hol : ot.length ≤ 1048576 := hC.ol
  obtain ⟨fo, hfo⟩ : ∃ l, Hid (l = Lib.itoa off) := ⟨_, rfl⟩
  have lfo : fo.length ≤ 21 := by rw [hfo.out]; exact itoa_len21 hC.o0 hC.o1
  have kfo : Hid (∀ w', Calls Tryd.prog 23 #[.int .i64 off] w' fun e w'' => e = .returned (encStr fo) ∧ w' = w'') := fun w' => by rw [hfo.out]; exact deci_any off hC.o0 hC.o1 w'
  obtain ⟨fc, hfc⟩ : ∃ l, Hid (l = Lib.itoa cnt) := ⟨_, rfl⟩
  have lfc : fc.length ≤ 21 := by rw [hfc.out]; exact itoa_len21 hC.c0 hC.c1
  have kfc : Hid (∀ w', Calls Tryd.prog 23 #[.int .i64 cnt] w' fun e w'' => e = .returned (encStr fc) ∧ w' = w'') := fun w' => by rw [hfc.out]; exact deci_any cnt hC.c0 hC.c1 w'
  have hmf : ∀ (fn : Fn) (first cap : Array Value) (w : World), (Instr.makeFunc fn first cap).run Tryd.prog w = .ok (.func fn first cap) w := fun _ _ _ _ => rfl
  obtain ⟨W2, hW2⟩ : ∃ W2, W2 = (w.alloc (.cells #[.int .i64 11, encStr nm, encStr ot, .int .i64 off, .int .i64 cnt, .int .i64 drv, .int .i64 kp, .slice R dn dc] 31)).alloc (.cells #[.int .i64 0, .string ⟨#[]⟩, .string ⟨#[]⟩, .int .i64 0, .int .i64 0, .int .i64 0, .int .i64 0, .slice none 0 0] 31) := ⟨_, rfl⟩
  obtain ⟨W3, hW3⟩ : ∃ W3, W3 = (W2.alloc (.cells #[.int .i64 0, .string ⟨nm.toArray⟩, .string ⟨ot.toArray⟩, .int .i64 off, .int .i64 cnt, .int .i64 drv, .int .i64 kp, .slice R dn dc] 31)).alloc (.cells #[.bool true] 4) := ⟨_, rfl⟩
  have hs2 : W2.heap.size = w.heap.size + 1 + 1 := by rw [hW2]; simp
  have hN2 : Hid (New w W2) := by show New _ _; rw [hW2]; exact ((New.refl w).alloc _).alloc _
  have hN3 : Hid (New W2 W3) := by show New _ _; rw [hW3]; exact ((New.refl W2).alloc _).alloc _
  have hR2 : Hid (Blk W2 (w.heap.size + 1) 31 #[.int .i64 0, .string ⟨#[]⟩, .string ⟨#[]⟩, .int .i64 0, .int .i64 0, .int .i64 0, .int .i64 0, .slice none 0 0]) := by
    show Blk _ _ _ _
    rw [hW2]
    have h := Blk.fresh (w.alloc (.cells #[.int .i64 11, encStr nm, encStr ot, .int .i64 off, .int .i64 cnt, .int .i64 drv, .int .i64 kp, .slice R dn dc] 31)) 31 #[.int .i64 0, .string ⟨#[]⟩, .string ⟨#[]⟩, .int .i64 0, .int .i64 0, .int .i64 0, .int .i64 0, .slice none 0 0]
    simpa using h
  have hQ3 : Hid (Blk W3 w.heap.size 31 #[.int .i64 11, encStr nm, encStr ot, .int .i64 off, .int .i64 cnt, .int .i64 drv, .int .i64 kp, .slice R dn dc]) := by
    show Blk _ _ _ _
    refine Blk.new ?_ hN3.out
    rw [hW2]
    exact (Blk.fresh w 31 _).alloc _
  have hP3 : Hid (Blk W3 (w.heap.size + 1 + 1) 31 #[.int .i64 0, .string ⟨nm.toArray⟩, .string ⟨ot.toArray⟩, .int .i64 off, .int .i64 cnt, .int .i64 drv, .int .i64 kp, .slice R dn dc]) := by
    show Blk _ _ _ _
    rw [hW3, ← hs2]
    exact (Blk.fresh W2 31 _).alloc _
  have hB3 : Hid (Blk W3 (w.heap.size + 1 + 1 + 1) 4 #[.bool true]) := by
    show Blk _ _ _ _
    rw [hW3, ← hs2]
    have h := Blk.fresh (W2.alloc (.cells #[.int .i64 0, .string ⟨nm.toArray⟩, .string ⟨ot.toArray⟩, .int .i64 off, .int .i64 cnt, .int .i64 drv, .int .i64 kp, .slice R dn dc] 31)) 4 #[.bool true]
    simpa using h
  replace hC := Lib.hid hC
  go_enter Tryd.func27, Tryd.ntmps27
  go_upto_region 6 with (go_at_call 23; refine (kfo.out _).mono ?_; rintro e w9 ⟨rfl, rfl⟩)
  go_upto_region 9 with (go_at_call 23; refine (kfc.out _).mono ?_; rintro e w9 ⟨rfl, rfl⟩)
  rw [← hW2, ← hW3]
  clear hW2 hW3
  have q0 := hQ3.out.cell 0
  simp at q0
  go_upto_region 63 with fail
  obtain ⟨w5, hw5⟩ : ∃ w5, w5 = W3 := ⟨_, rfl⟩
  rw [← hw5] at hP3 hB3 hN3 hQ3 ⊢
  have b0 : w5.cell? ⟨(w.heap.size + 1 + 1 + 1), 0, none⟩ = some (.bool true) := hB3.out.cell 0
  have hP5' := hP3
  have hN5 := hN3
  clear hB3 hP3 hw5 q0
  obtain ⟨bv, hbv⟩ : ∃ b, Hid (b = (true)) := ⟨(true), rfl⟩
  rw [← hbv.out] at b0
  have c0 := hP5'.out.cell 0
  have c1 := hP5'.out.cell 1
  have c2 := hP5'.out.cell 2
  have c3 := hP5'.out.cell 3
  have c4 := hP5'.out.cell 4
  have c5 := hP5'.out.cell 5
  have c6 := hP5'.out.cell 6
  have c7 := hP5'.out.cell 7
  have hR5 := Lib.hid (hR2.out.new hN5.out)
  have r0 := hR5.out.cell 0
  have z0 := hR5.out.frozen 0
  have r1 := hR5.out.cell 1
  have z1 := hR5.out.frozen 1
  have r2 := hR5.out.cell 2
  have z2 := hR5.out.frozen 2
  have r3 := hR5.out.cell 3
  have z3 := hR5.out.frozen 3
  have r4 := hR5.out.cell 4
  have z4 := hR5.out.frozen 4
  have r5 := hR5.out.cell 5
  have z5 := hR5.out.frozen 5
  have r6 := hR5.out.cell 6
  have z6 := hR5.out.frozen 6
  have r7 := hR5.out.cell 7
  have z7 := hR5.out.frozen 7
  simp at c0 r0 c1 r1 c2 r2 c3 r3 c4 r4 c5 r5 c6 r6 c7 r7
  go_region
  obtain ⟨W6, hW6⟩ : ∃ W6, W6 = ((((((((w5.setCell ⟨(w.heap.size + 1), 0, none⟩ (.int .i64 0)).setCell ⟨(w.heap.size + 1), 1, none⟩ (.string ⟨nm.toArray⟩)).setCell ⟨(w.heap.size + 1), 2, none⟩ (.string ⟨ot.toArray⟩)).setCell ⟨(w.heap.size + 1), 3, none⟩ (.int .i64 off)).setCell ⟨(w.heap.size + 1), 4, none⟩ (.int .i64 cnt)).setCell ⟨(w.heap.size + 1), 5, none⟩ (.int .i64 drv)).setCell ⟨(w.heap.size + 1), 6, none⟩ (.int .i64 kp)).setCell ⟨(w.heap.size + 1), 7, none⟩ (.slice R dn dc)).drew := ⟨_, rfl⟩
  have hR6 : Hid (Blk W6 (w.heap.size + 1) 31 #[.int .i64 0, .string ⟨nm.toArray⟩, .string ⟨ot.toArray⟩, .int .i64 off, .int .i64 cnt, .int .i64 drv, .int .i64 kp, .slice R dn dc]) := by
    show Blk _ _ _ _
    rw [hW6]
    refine Blk.drew ?_
    have h := ((((((((hR5.out.put 0 (.int .i64 0)).put 1 (.string ⟨nm.toArray⟩)).put 2 (.string ⟨ot.toArray⟩)).put 3 (.int .i64 off)).put 4 (.int .i64 cnt)).put 5 (.int .i64 drv)).put 6 (.int .i64 kp)).put 7 (.slice R dn dc))
    simpa using h
  have hN6 : Hid (New w W6) := by
    show New _ _
    rw [hW6]
    exact (((((((((hN2.out.next hN5.out).set (p := ⟨(w.heap.size + 1), 0, none⟩) (by dsimp only; omega) (.int .i64 0)).set (p := ⟨(w.heap.size + 1), 1, none⟩) (by dsimp only; omega) (.string ⟨nm.toArray⟩)).set (p := ⟨(w.heap.size + 1), 2, none⟩) (by dsimp only; omega) (.string ⟨ot.toArray⟩)).set (p := ⟨(w.heap.size + 1), 3, none⟩) (by dsimp only; omega) (.int .i64 off)).set (p := ⟨(w.heap.size + 1), 4, none⟩) (by dsimp only; omega) (.int .i64 cnt)).set (p := ⟨(w.heap.size + 1), 5, none⟩) (by dsimp only; omega) (.int .i64 drv)).set (p := ⟨(w.heap.size + 1), 6, none⟩) (by dsimp only; omega) (.int .i64 kp)).set (p := ⟨(w.heap.size + 1), 7, none⟩) (by dsimp only; omega) (.slice R dn dc)).drewN 1
  rw [← hW6]
  clear hW6 c0 r0 z0 c1 r1 z1 c2 r2 z2 c3 r3 z3 c4 r4 z4 c5 r5 z5 c6 r6 z6 c7 r7 z7 b0
  have f0 := hR6.out.cell 0
  have f1 := hR6.out.cell 1
  have f2 := hR6.out.cell 2
  have f3 := hR6.out.cell 3
  have f4 := hR6.out.cell 4
  have f5 := hR6.out.cell 5
  have f6 := hR6.out.cell 6
  have f7 := hR6.out.cell 7
  simp at f0 f1 f2 f3 f4 f5 f6 f7
  have hline : (⟨#[115, 110, 97, 112, 115]⟩ : ByteArray) = ⟨([115, 110, 97, 112, 115] : Tx).toArray⟩ := by
    show (⟨[115, 110, 97, 112, 115].toArray⟩ : ByteArray) = _
    rfl
  go_wp2
  refine bodyPost_ret (v := .tuple #[.string (⟨#[115, 110, 97, 112, 115]⟩ : ByteArray), .agg #[.int .i64 0, .string ⟨nm.toArray⟩, .string ⟨ot.toArray⟩, .int .i64 off, .int .i64 cnt, .int .i64 drv, .int .i64 kp, .slice R dn dc], .bool bv]) (by simp [results, Tryd.results27, go_sem, f0, f1, f2, f3, f4, f5, f6, f7]) rfl ⟨[115, 110, 97, 112, 115], ⟨nm, ot, off, cnt, drv, kp, R, dn, dc⟩, bv, rfl, hN6.out, fun hb => ⟨[], ?_, ?_⟩, fun hb => ?_⟩
  · rw [hbv.out] at hb
    show goS f [] _ = _
    skip
    simp [goS, badS, hb, clr, part]
  · show _ = [115, 110, 97, 112, 115] ++ tailT []
    simp [Lib.joinTail]
  · rw [hbv.out] at hb
    show goS f [] _ = _
    simp at hb
set_option maxHeartbeats 1000000 in
theorem line_12 (nm ot : Tx) (off cnt drv kp : Int) (R : Option Addr) (dn dc : Nat) (f : Nat → Nat) (w : World) (hC : CuOk w f ⟨nm, ot, off, cnt, drv, kp, R, dn, dc⟩) (hf : ∀ i, f i < 256) :
    Calls Tryd.prog 27 #[.agg #[.int .i64 12, encStr nm, encStr ot, .int .i64 off, .int .i64 cnt, .int .i64 drv, .int .i64 kp, .slice R dn dc]] w (LnP f 11 ⟨nm, ot, off, cnt, drv, kp, R, dn, dc⟩ w) := by
  have hnl : nm.length ≤ 1048576 := hC.nl
  have hol : ot.length ≤ 1048576 := hC.ol
  obtain ⟨fo, hfo⟩ : ∃ l, Hid (l = Lib.itoa off) := ⟨_, rfl⟩
  have lfo : fo.length ≤ 21 := by rw [hfo.out]; exact itoa_len21 hC.o0 hC.o1
  have kfo : Hid (∀ w', Calls Tryd.prog 23 #[.int .i64 off] w' fun e w'' => e = .returned (encStr fo) ∧ w' = w'') := fun w' => by rw [hfo.out]; exact deci_any off hC.o0 hC.o1 w'
  obtain ⟨fc, hfc⟩ : ∃ l, Hid (l = Lib.itoa cnt) := ⟨_, rfl⟩
  have lfc : fc.length ≤ 21 := by rw [hfc.out]; exact itoa_len21 hC.c0 hC.c1
  have kfc : Hid (∀ w', Calls Tryd.prog 23 #[.int .i64 cnt] w' fun e w'' => e = .returned (encStr fc) ∧ w' = w'') := fun w' => by rw [hfc.out]; exact deci_any cnt hC.c0 hC.c1 w'
  have hmf : ∀ (fn : Fn) (first cap : Array Value) (w : World), (Instr.makeFunc fn first cap).run Tryd.prog w = .ok (.func fn first cap) w := fun _ _ _ _ => rfl
  obtain ⟨W2, hW2⟩ : ∃ W2, W2 = (w.alloc (.cells #[.int .i64 12, encStr nm, encStr ot, .int .i64 off, .int .i64 cnt, .int .i64 drv, .int .i64 kp, .slice R dn dc] 31)).alloc (.cells #[.int .i64 0, .string ⟨#[]⟩, .string ⟨#[]⟩, .int .i64 0, .int .i64 0, .int .i64 0, .int .i64 0, .slice none 0 0] 31) := ⟨_, rfl⟩
  obtain ⟨W3, hW3⟩ : ∃ W3, W3 = (W2.alloc (.cells #[.int .i64 0, .string ⟨nm.toArray⟩, .string ⟨ot.toArray⟩, .int .i64 off, .int .i64 cnt, .int .i64 drv, .int .i64 kp, .slice R dn dc] 31)).alloc (.cells #[.bool true] 4) := ⟨_, rfl⟩
  have hs2 : W2.heap.size = w.heap.size + 1 + 1 := by rw [hW2]; simp
  have hN2 : Hid (New w W2) := by show New _ _; rw [hW2]; exact ((New.refl w).alloc _).alloc _
  have hN3 : Hid (New W2 W3) := by show New _ _; rw [hW3]; exact ((New.refl W2).alloc _).alloc _
  have hR2 : Hid (Blk W2 (w.heap.size + 1) 31 #[.int .i64 0, .string ⟨#[]⟩, .string ⟨#[]⟩, .int .i64 0, .int .i64 0, .int .i64 0, .int .i64 0, .slice none 0 0]) := by
    show Blk _ _ _ _
    rw [hW2]
    have h := Blk.fresh (w.alloc (.cells #[.int .i64 12, encStr nm, encStr ot, .int .i64 off, .int .i64 cnt, .int .i64 drv, .int .i64 kp, .slice R dn dc] 31)) 31 #[.int .i64 0, .string ⟨#[]⟩, .string ⟨#[]⟩, .int .i64 0, .int .i64 0, .int .i64 0, .int .i64 0, .slice none 0 0]
    simpa using h
  have hQ3 : Hid (Blk W3 w.heap.size 31 #[.int .i64 12, encStr nm, encStr ot, .int .i64 off, .int .i64 cnt, .int .i64 drv, .int .i64 kp, .slice R dn dc]) := by
    show Blk _ _ _ _
    refine Blk.new ?_ hN3.out
    rw [hW2]
    exact (Blk.fresh w 31 _).alloc _
  have hP3 : Hid (Blk W3 (w.heap.size + 1 + 1) 31 #[.int .i64 0, .string ⟨nm.toArray⟩, .string ⟨ot.toArray⟩, .int .i64 off, .int .i64 cnt, .int .i64 drv, .int .i64 kp, .slice R dn dc]) := by
    show Blk _ _ _ _
    rw [hW3, ← hs2]
    exact (Blk.fresh W2 31 _).alloc _
  have hB3 : Hid (Blk W3 (w.heap.size + 1 + 1 + 1) 4 #[.bool true]) := by
    show Blk _ _ _ _
    rw [hW3, ← hs2]
    have h := Blk.fresh (W2.alloc (.cells #[.int .i64 0, .string ⟨nm.toArray⟩, .string ⟨ot.toArray⟩, .int .i64 off, .int .i64 cnt, .int .i64 drv, .int .i64 kp, .slice R dn dc] 31)) 4 #[.bool true]
    simpa using h
  replace hC := Lib.hid hC
  go_enter Tryd.func27, Tryd.ntmps27
  go_upto_region 6 with (go_at_call 23; refine (kfo.out _).mono ?_; rintro e w9 ⟨rfl, rfl⟩)
  go_upto_region 9 with (go_at_call 23; refine (kfc.out _).mono ?_; rintro e w9 ⟨rfl, rfl⟩)
  rw [← hW2, ← hW3]
  clear hW2 hW3
  have q0 := hQ3.out.cell 0
  simp at q0
  go_upto_region 63 with fail
  obtain ⟨w5, hw5⟩ : ∃ w5, w5 = W3 := ⟨_, rfl⟩
  rw [← hw5] at hP3 hB3 hN3 hQ3 ⊢
  have b0 : w5.cell? ⟨(w.heap.size + 1 + 1 + 1), 0, none⟩ = some (.bool true) := hB3.out.cell 0
  have hP5' := hP3
  have hN5 := hN3
  clear hB3 hP3 hw5 q0
  obtain ⟨bv, hbv⟩ : ∃ b, Hid (b = (true)) := ⟨(true), rfl⟩
  rw [← hbv.out] at b0
  have c0 := hP5'.out.cell 0
  have c1 := hP5'.out.cell 1
  have c2 := hP5'.out.cell 2
  have c3 := hP5'.out.cell 3
  have c4 := hP5'.out.cell 4
  have c5 := hP5'.out.cell 5
  have c6 := hP5'.out.cell 6
  have c7 := hP5'.out.cell 7
  have hR5 := Lib.hid (hR2.out.new hN5.out)
  have r0 := hR5.out.cell 0
  have z0 := hR5.out.frozen 0
  have r1 := hR5.out.cell 1
  have z1 := hR5.out.frozen 1
  have r2 := hR5.out.cell 2
  have z2 := hR5.out.frozen 2
  have r3 := hR5.out.cell 3
  have z3 := hR5.out.frozen 3
  have r4 := hR5.out.cell 4
  have z4 := hR5.out.frozen 4
  have r5 := hR5.out.cell 5
  have z5 := hR5.out.frozen 5
  have r6 := hR5.out.cell 6
  have z6 := hR5.out.frozen 6
  have r7 := hR5.out.cell 7
  have z7 := hR5.out.frozen 7
  simp at c0 r0 c1 r1 c2 r2 c3 r3 c4 r4 c5 r5 c6 r6 c7 r7
  go_region
  obtain ⟨W6, hW6⟩ : ∃ W6, W6 = ((((((((w5.setCell ⟨(w.heap.size + 1), 0, none⟩ (.int .i64 0)).setCell ⟨(w.heap.size + 1), 1, none⟩ (.string ⟨nm.toArray⟩)).setCell ⟨(w.heap.size + 1), 2, none⟩ (.string ⟨ot.toArray⟩)).setCell ⟨(w.heap.size + 1), 3, none⟩ (.int .i64 off)).setCell ⟨(w.heap.size + 1), 4, none⟩ (.int .i64 cnt)).setCell ⟨(w.heap.size + 1), 5, none⟩ (.int .i64 drv)).setCell ⟨(w.heap.size + 1), 6, none⟩ (.int .i64 kp)).setCell ⟨(w.heap.size + 1), 7, none⟩ (.slice R dn dc)).drew := ⟨_, rfl⟩
  have hR6 : Hid (Blk W6 (w.heap.size + 1) 31 #[.int .i64 0, .string ⟨nm.toArray⟩, .string ⟨ot.toArray⟩, .int .i64 off, .int .i64 cnt, .int .i64 drv, .int .i64 kp, .slice R dn dc]) := by
    show Blk _ _ _ _
    rw [hW6]
    refine Blk.drew ?_
    have h := ((((((((hR5.out.put 0 (.int .i64 0)).put 1 (.string ⟨nm.toArray⟩)).put 2 (.string ⟨ot.toArray⟩)).put 3 (.int .i64 off)).put 4 (.int .i64 cnt)).put 5 (.int .i64 drv)).put 6 (.int .i64 kp)).put 7 (.slice R dn dc))
    simpa using h
  have hN6 : Hid (New w W6) := by
    show New _ _
    rw [hW6]
    exact (((((((((hN2.out.next hN5.out).set (p := ⟨(w.heap.size + 1), 0, none⟩) (by dsimp only; omega) (.int .i64 0)).set (p := ⟨(w.heap.size + 1), 1, none⟩) (by dsimp only; omega) (.string ⟨nm.toArray⟩)).set (p := ⟨(w.heap.size + 1), 2, none⟩) (by dsimp only; omega) (.string ⟨ot.toArray⟩)).set (p := ⟨(w.heap.size + 1), 3, none⟩) (by dsimp only; omega) (.int .i64 off)).set (p := ⟨(w.heap.size + 1), 4, none⟩) (by dsimp only; omega) (.int .i64 cnt)).set (p := ⟨(w.heap.size + 1), 5, none⟩) (by dsimp only; omega) (.int .i64 drv)).set (p := ⟨(w.heap.size + 1), 6, none⟩) (by dsimp only; omega) (.int .i64 kp)).set (p := ⟨(w.heap.size + 1), 7, none⟩) (by dsimp only; omega) (.slice R dn dc)).drewN 1
  rw [← hW6]
  clear hW6 c0 r0 z0 c1 r1 z1 c2 r2 z2 c3 r3 z3 c4 r4 z4 c5 r5 z5 c6 r6 z6 c7 r7 z7 b0
  have f0 := hR6.out.cell 0
  have f1 := hR6.out.cell 1
  have f2 := hR6.out.cell 2
  have f3 := hR6.out.cell 3
  have f4 := hR6.out.cell 4
  have f5 := hR6.out.cell 5
  have f6 := hR6.out.cell 6
  have f7 := hR6.out.cell 7
  simp at f0 f1 f2 f3 f4 f5 f6 f7
  have hline : (⟨#[115, 121, 110, 99]⟩ : ByteArray) = ⟨([115, 121, 110, 99] : Tx).toArray⟩ := by
    show (⟨[115, 121, 110, 99].toArray⟩ : ByteArray) = _
    rfl
  go_wp2
  refine bodyPost_ret (v := .tuple #[.string (⟨#[115, 121, 110, 99]⟩ : ByteArray), .agg #[.int .i64 0, .string ⟨nm.toArray⟩, .string ⟨ot.toArray⟩, .int .i64 off, .int .i64 cnt, .int .i64 drv, .int .i64 kp, .slice R dn dc], .bool bv]) (by simp [results, Tryd.results27, go_sem, f0, f1, f2, f3, f4, f5, f6, f7]) rfl ⟨[115, 121, 110, 99], ⟨nm, ot, off, cnt, drv, kp, R, dn, dc⟩, bv, rfl, hN6.out, fun hb => ⟨[], ?_, ?_⟩, fun hb => ?_⟩
  · rw [hbv.out] at hb
    show goS f [] _ = _
    skip
    simp [goS, badS, hb, clr, part]
  · show _ = [115, 121, 110, 99] ++ tailT []
    simp [Lib.joinTail]
  · rw [hbv.out] at hb
    show goS f [] _ = _
    simp at hb
set_option maxHeartbeats 1000000 in
theorem line_13 (nm ot : Tx) (off cnt drv kp : Int) (R : Option Addr) (dn dc : Nat) (f : Nat → Nat) (w : World) (hC : CuOk w f ⟨nm, ot, off, cnt, drv, kp, R, dn, dc⟩) (hf : ∀ i, f i < 256) :
    Calls Tryd.prog 27 #[.agg #[.int .i64 13, encStr nm, encStr ot, .int .i64 off, .int .i64 cnt, .int .i64 drv, .int .i64 kp, .slice R dn dc]] w (LnP f 12 ⟨nm, ot, off, cnt, drv, kp, R, dn, dc⟩ w) := by
  have hnl : nm.length ≤ 1048576 := hC.nl
  have hol : ot.length ≤ 1048576 := hC.ol
  obtain ⟨fo, hfo⟩ : ∃ l, Hid (l = Lib.itoa off) := ⟨_, rfl⟩
  have lfo : fo.length ≤ 21 := by rw [hfo.out]; exact itoa_len21 hC.o0 hC.o1
  have kfo : Hid (∀ w', Calls Tryd.prog 23 #[.int .i64 off] w' fun e w'' => e = .returned (encStr fo) ∧ w' = w'') := fun w' => by rw [hfo.out]; exact deci_any off hC.o0 hC.o1 w'
  obtain ⟨fc, hfc⟩ : ∃ l, Hid (l = Lib.itoa cnt) := ⟨_, rfl⟩
  have lfc : fc.length ≤ 21 := by rw [hfc.out]; exact itoa_len21 hC.c0 hC.c1
  have kfc : Hid (∀ w', Calls Tryd.prog 23 #[.int .i64 cnt] w' fun e w'' => e = .returned (encStr fc) ∧ w' = w'') := fun w' => by rw [hfc.out]; exact deci_any cnt hC.c0 hC.c1 w'
  obtain ⟨fk, hfk⟩ : ∃ l, Hid (l = Lib.itoa kp) := ⟨_, rfl⟩
  have lfk : fk.length ≤ 21 := by rw [hfk.out]; exact itoa_len21 hC.k0 hC.k1
  have kfk : Hid (∀ w', Calls Tryd.prog 23 #[.int .i64 kp] w' fun e w'' => e = .returned (encStr fk) ∧ w' = w'') := fun w' => by rw [hfk.out]; exact deci_any kp hC.k0 hC.k1 w'
  have hmf : ∀ (fn : Fn) (first cap : Array Value) (w : World), (Instr.makeFunc fn first cap).run Tryd.prog w = .ok (.func fn first cap) w := fun _ _ _ _ => rfl
  obtain ⟨W2, hW2⟩ : ∃ W2, W2 = (w.alloc (.cells #[.int .i64 13, encStr nm, encStr ot, .int .i64 off, .int .i64 cnt, .int .i64 drv, .int .i64 kp, .slice R dn dc] 31)).alloc (.cells #[.int .i64 0, .string ⟨#[]⟩, .string ⟨#[]⟩, .int .i64 0, .int .i64 0, .int .i64 0, .int .i64 0, .slice none 0 0] 31) := ⟨_, rfl⟩
  obtain ⟨W3, hW3⟩ : ∃ W3, W3 = (W2.alloc (.cells #[.int .i64 0, .string ⟨nm.toArray⟩, .string ⟨ot.toArray⟩, .int .i64 off, .int .i64 cnt, .int .i64 drv, .int .i64 kp, .slice R dn dc] 31)).alloc (.cells #[.bool true] 4) := ⟨_, rfl⟩
  have hs2 : W2.heap.size = w.heap.size + 1 + 1 := by rw [hW2]; simp
  have hN2 : Hid (New w W2) := by show New _ _; rw [hW2]; exact ((New.refl w).alloc _).alloc _
  have hN3 : Hid (New W2 W3) := by show New _ _; rw [hW3]; exact ((New.refl W2).alloc _).alloc _
  have hR2 : Hid (Blk W2 (w.heap.size + 1) 31 #[.int .i64 0, .string ⟨#[]⟩, .string ⟨#[]⟩, .int .i64 0, .int .i64 0, .int .i64 0, .int .i64 0, .slice none 0 0]) := by
    show Blk _ _ _ _
    rw [hW2]
    have h := Blk.fresh (w.alloc (.cells #[.int .i64 13, encStr nm, encStr ot, .int .i64 off, .int .i64 cnt, .int .i64 drv, .int .i64 kp, .slice R dn dc] 31)) 31 #[.int .i64 0, .string ⟨#[]⟩, .string ⟨#[]⟩, .int .i64 0, .int .i64 0, .int .i64 0, .int .i64 0, .slice none 0 0]
    simpa using h
  have hQ3 : Hid (Blk W3 w.heap.size 31 #[.int .i64 13, encStr nm, encStr ot, .int .i64 off, .int .i64 cnt, .int .i64 drv, .int .i64 kp, .slice R dn dc]) := by
    show Blk _ _ _ _
    refine Blk.new ?_ hN3.out
    rw [hW2]
    exact (Blk.fresh w 31 _).alloc _
  have hP3 : Hid (Blk W3 (w.heap.size + 1 + 1) 31 #[.int .i64 0, .string ⟨nm.toArray⟩, .string ⟨ot.toArray⟩, .int .i64 off, .int .i64 cnt, .int .i64 drv, .int .i64 kp, .slice R dn dc]) := by
    show Blk _ _ _ _
    rw [hW3, ← hs2]
    exact (Blk.fresh W2 31 _).alloc _
  have hB3 : Hid (Blk W3 (w.heap.size + 1 + 1 + 1) 4 #[.bool true]) := by
    show Blk _ _ _ _
    rw [hW3, ← hs2]
    have h := Blk.fresh (W2.alloc (.cells #[.int .i64 0, .string ⟨nm.toArray⟩, .string ⟨ot.toArray⟩, .int .i64 off, .int .i64 cnt, .int .i64 drv, .int .i64 kp, .slice R dn dc] 31)) 4 #[.bool true]
    simpa using h
  have hcl : Hid (∀ w', New W3 w' → Calls Tryd.prog 47 #[.bool false, .bool false, .bool false, .bool false, .bool false, .bool true, .bool false, .pointer (some ⟨(w.heap.size + 1 + 1), 0, none⟩), .pointer (some ⟨(w.heap.size + 1 + 1 + 1), 0, none⟩), .pointer (some ⟨w.heap.size, 0, none⟩)] w' _) := fun w' hn => clear_k _ _ _ 13 ⟨nm, ot, off, cnt, drv, kp, R, dn, dc⟩ W2 w' (hP3.out.new hn) (hB3.out.new hn) (hQ3.out.new hn) (by omega) (hN3.out.next hn) (by omega) (by omega) hnl hol
  replace hC := Lib.hid hC
  go_enter Tryd.func27, Tryd.ntmps27
  go_upto_region 6 with (go_at_call 23; refine (kfo.out _).mono ?_; rintro e w9 ⟨rfl, rfl⟩)
  go_upto_region 9 with (go_at_call 23; refine (kfc.out _).mono ?_; rintro e w9 ⟨rfl, rfl⟩)
  rw [← hW2, ← hW3]
  clear hW2 hW3
  have q0 := hQ3.out.cell 0
  have q6 := hQ3.out.cell 6
  simp at q0 q6
  go_upto_region 63 with (first
    | (go_at_call 23; refine (kfk.out _).mono ?_; rintro e w9 ⟨rfl, rfl⟩)
    | (go_at_call 47; refine (hcl.out _ (New.refl _)).mono ?_; rintro e w5 ⟨rfl, hP5, hB5, hN5⟩; have hP5 := Lib.hid hP5; have hB5 := Lib.hid hB5; have hN5 := Lib.hid hN5))
  have b0 : w5.cell? ⟨(w.heap.size + 1 + 1 + 1), 0, none⟩ = some (.bool (true)) := hB5.out.cell 0
  have hP5' : Hid (Blk w5 (w.heap.size + 1 + 1) 31 #[.int .i64 0, .string ⟨nm.toArray⟩, .string ⟨ot.toArray⟩, .int .i64 off, .int .i64 cnt, .int .i64 drv, .int .i64 0, .slice R dn dc]) := hP5.out
  clear hP5 hB5 q0
  obtain ⟨bv, hbv⟩ : ∃ b, Hid (b = (true)) := ⟨(true), rfl⟩
  rw [← hbv.out] at b0
  have c0 := hP5'.out.cell 0
  have c1 := hP5'.out.cell 1
  have c2 := hP5'.out.cell 2
  have c3 := hP5'.out.cell 3
  have c4 := hP5'.out.cell 4
  have c5 := hP5'.out.cell 5
  have c6 := hP5'.out.cell 6
  have c7 := hP5'.out.cell 7
  have hR5 := Lib.hid (hR2.out.new hN5.out)
  have r0 := hR5.out.cell 0
  have z0 := hR5.out.frozen 0
  have r1 := hR5.out.cell 1
  have z1 := hR5.out.frozen 1
  have r2 := hR5.out.cell 2
  have z2 := hR5.out.frozen 2
  have r3 := hR5.out.cell 3
  have z3 := hR5.out.frozen 3
  have r4 := hR5.out.cell 4
  have z4 := hR5.out.frozen 4
  have r5 := hR5.out.cell 5
  have z5 := hR5.out.frozen 5
  have r6 := hR5.out.cell 6
  have z6 := hR5.out.frozen 6
  have r7 := hR5.out.cell 7
  have z7 := hR5.out.frozen 7
  simp at c0 r0 c1 r1 c2 r2 c3 r3 c4 r4 c5 r5 c6 r6 c7 r7
  go_region
  obtain ⟨W6, hW6⟩ : ∃ W6, W6 = ((((((((w5.setCell ⟨(w.heap.size + 1), 0, none⟩ (.int .i64 0)).setCell ⟨(w.heap.size + 1), 1, none⟩ (.string ⟨nm.toArray⟩)).setCell ⟨(w.heap.size + 1), 2, none⟩ (.string ⟨ot.toArray⟩)).setCell ⟨(w.heap.size + 1), 3, none⟩ (.int .i64 off)).setCell ⟨(w.heap.size + 1), 4, none⟩ (.int .i64 cnt)).setCell ⟨(w.heap.size + 1), 5, none⟩ (.int .i64 drv)).setCell ⟨(w.heap.size + 1), 6, none⟩ (.int .i64 0)).setCell ⟨(w.heap.size + 1), 7, none⟩ (.slice R dn dc)).drew := ⟨_, rfl⟩
  have hR6 : Hid (Blk W6 (w.heap.size + 1) 31 #[.int .i64 0, .string ⟨nm.toArray⟩, .string ⟨ot.toArray⟩, .int .i64 off, .int .i64 cnt, .int .i64 drv, .int .i64 0, .slice R dn dc]) := by
    show Blk _ _ _ _
    rw [hW6]
    refine Blk.drew ?_
    have h := ((((((((hR5.out.put 0 (.int .i64 0)).put 1 (.string ⟨nm.toArray⟩)).put 2 (.string ⟨ot.toArray⟩)).put 3 (.int .i64 off)).put 4 (.int .i64 cnt)).put 5 (.int .i64 drv)).put 6 (.int .i64 0)).put 7 (.slice R dn dc))
    simpa using h
  have hN6 : Hid (New w W6) := by
    show New _ _
    rw [hW6]
    exact (((((((((hN2.out.next hN5.out).set (p := ⟨(w.heap.size + 1), 0, none⟩) (by dsimp only; omega) (.int .i64 0)).set (p := ⟨(w.heap.size + 1), 1, none⟩) (by dsimp only; omega) (.string ⟨nm.toArray⟩)).set (p := ⟨(w.heap.size + 1), 2, none⟩) (by dsimp only; omega) (.string ⟨ot.toArray⟩)).set (p := ⟨(w.heap.size + 1), 3, none⟩) (by dsimp only; omega) (.int .i64 off)).set (p := ⟨(w.heap.size + 1), 4, none⟩) (by dsimp only; omega) (.int .i64 cnt)).set (p := ⟨(w.heap.size + 1), 5, none⟩) (by dsimp only; omega) (.int .i64 drv)).set (p := ⟨(w.heap.size + 1), 6, none⟩) (by dsimp only; omega) (.int .i64 0)).set (p := ⟨(w.heap.size + 1), 7, none⟩) (by dsimp only; omega) (.slice R dn dc)).drewN 1
  rw [← hW6]
  clear hW6 c0 r0 z0 c1 r1 z1 c2 r2 z2 c3 r3 z3 c4 r4 z4 c5 r5 z5 c6 r6 z6 c7 r7 z7 b0
  have f0 := hR6.out.cell 0
  have f1 := hR6.out.cell 1
  have f2 := hR6.out.cell 2
  have f3 := hR6.out.cell 3
  have f4 := hR6.out.cell 4
  have f5 := hR6.out.cell 5
  have f6 := hR6.out.cell 6
  have f7 := hR6.out.cell 7
  simp at f0 f1 f2 f3 f4 f5 f6 f7
  have hline : ((⟨#[112, 111, 119, 101, 114, 32]⟩ : ByteArray) ++ (⟨fk.toArray⟩ : ByteArray)) = ⟨(([112, 111, 119, 101, 114, 32] ++ fk) : Tx).toArray⟩ := by
    show ((⟨[112, 111, 119, 101, 114, 32].toArray⟩ : ByteArray) ++ (⟨fk.toArray⟩ : ByteArray)) = _
    simp only [ByteArray.mk_append_mk]
  go_wp2
  refine bodyPost_ret (v := .tuple #[.string ((⟨#[112, 111, 119, 101, 114, 32]⟩ : ByteArray) ++ (⟨fk.toArray⟩ : ByteArray)), .agg #[.int .i64 0, .string ⟨nm.toArray⟩, .string ⟨ot.toArray⟩, .int .i64 off, .int .i64 cnt, .int .i64 drv, .int .i64 0, .slice R dn dc], .bool bv]) (by simp [results, Tryd.results27, go_sem, f0, f1, f2, f3, f4, f5, f6, f7]) rfl ⟨([112, 111, 119, 101, 114, 32] ++ fk), ⟨nm, ot, off, cnt, drv, 0, R, dn, dc⟩, bv, congrArg (fun s => Ending.returned (.tuple #[.string s, .agg #[.int .i64 0, .string ⟨nm.toArray⟩, .string ⟨ot.toArray⟩, .int .i64 off, .int .i64 cnt, .int .i64 drv, .int .i64 0, .slice R dn dc], .bool bv])) hline, hN6.out, fun hb => ⟨[fk], ?_, ?_⟩, fun hb => ?_⟩
  · rw [hbv.out] at hb
    rw [hfk.out]; show goS f [107] _ = _
    skip
    simp [goS, badS, hb, clr, part]
  · show _ = [112, 111, 119, 101, 114] ++ tailT [fk]
    simp [Lib.joinTail]
  · rw [hbv.out] at hb
    show goS f [107] _ = _
    simp at hb
end Go.Proofs.YtaommipcdcncnaaDoor.desk
