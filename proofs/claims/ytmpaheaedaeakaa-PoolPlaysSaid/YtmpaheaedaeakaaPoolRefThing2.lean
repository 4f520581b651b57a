/-
  The reference's Model.thing: the other ways; all.
-/
import Derived.Test.YtmpaheaedaeakaaPoolRefThing
namespace Go.Proofs.Ytmpaheaedaeakaa.pool
open Go.ChangeShapes Go.WideShapes Go.ChangeAt Go.RowKit Go.Proofs.Ytmpaheaedaeakaa.kit Go.Deep Go.Maps
set_option linter.unusedVariables false
set_option maxRecDepth 100000
set_option maxHeartbeats 1000000 in
theorem thing_size0 (tv sv v : Value) (s : PS) (b : By) (C : Cm) (drive keep : Int) (R : Option Addr) (dc : Nat) (w : World) (ht : TL w tv s.ths) (hs : SL w sv s.shs) (hv : Bs w v b) (hb : b.n ≤ 1024) (hP : OkP s) (hC : CmOk w C R dc) (hk : C.kind = 2) (hd : C.dn = 0) :
    Calls Try.prog 21 #[.agg #[tv, sv], .agg (cmL C.kind C.name C.other C.off C.count drive keep R C.dn dc), .agg #[encStr C.name, v]] w (MdP (thingT s b C).1 (thingT s b C).2 w) := by
  have e1 : thingT s b C = (Td.no 1, s) := by unfold thingT; rw [if_neg (by omega), if_neg (by omega), if_pos hk, if_pos (by omega)]
  rw [e1]
  clear e1
  obtain ⟨W1, hW1, hN1, gm, gc, gx, gp, gq⟩ := thing_mem w #[tv, sv] (cmL C.kind C.name C.other C.off C.count drive keep R C.dn dc) #[encStr C.name, v]
  obtain ⟨c0, c1, c2, c3, c4, c5, c6, c7⟩ := cmd_cells gc.out
  rw [hk] at c0
  have x0 := gx.out.cell 0
  have x1 := gx.out.cell 1
  have xf := gx.out.frozen 1
  simp at x0 x1
  have hNH := Lib.hid hN1
  have ht1 := Lib.hid (TL.new ht hN1)
  have hs1 := Lib.hid (SL.new hs hN1)
  have hv1 := Lib.hid (hv.new hN1)
  have hC1 := Lib.hid (hC.new hN1)
  have hPH := Lib.hid hP
  obtain ⟨A, n, rfl⟩ := ht.form
  obtain ⟨B, m, rfl⟩ := hs.form
  obtain ⟨k, j, rfl⟩ := hv.form
  have k0 := gm.out.cell 0
  have k1 := gm.out.cell 1
  simp at k0 k1
  obtain ⟨⟨r0, r1, r2, r3, r4⟩, ⟨y0, y1, y2, y3, y4⟩, ⟨r5, r6, y5, y6⟩, hx⟩ := out_cells gp.out gq.out (by omega)
  have hf := Lib.hid (md_fin (t := Td.no 1) (s := s) gp.out gq.out (by omega) (by omega) hNH.out (TdV.no W1 1) ht1.out hs1.out).drew
  have f1 : (C.dn : Int) < 1 := by omega
  clear hd
  clear hN1 ht hs hv hC hk hP
  go_enter Try.func21, Try.ntmps21
  go_upto_region 1 with fail
  rw [← hW1]
  clear hW1
  rw [show w.heap.size + 1 + 1 + 1 + 1 = w.heap.size + 4 from rfl, show w.heap.size + 1 + 1 + 1 = w.heap.size + 3 from rfl, show w.heap.size + 1 + 1 = w.heap.size + 2 from rfl]
  go_wp2
  go_region
  all_goals go_wp2
  all_goals exact bodyPost_ret (by simp [results, Try.results21, go_sem, hx.out]) rfl hf.out
set_option maxHeartbeats 1000000 in
theorem thing_size1 (tv sv v : Value) (s : PS) (b : By) (C : Cm) (drive keep : Int) (R : Option Addr) (dc : Nat) (w : World) (ht : TL w tv s.ths) (hs : SL w sv s.shs) (hv : Bs w v b) (hb : b.n ≤ 1024) (hP : OkP s) (hC : CmOk w C R dc) (hk : C.kind = 2) (hd : 400 < C.dn) :
    Calls Try.prog 21 #[.agg #[tv, sv], .agg (cmL C.kind C.name C.other C.off C.count drive keep R C.dn dc), .agg #[encStr C.name, v]] w (MdP (thingT s b C).1 (thingT s b C).2 w) := by
  have e1 : thingT s b C = (Td.no 1, s) := by unfold thingT; rw [if_neg (by omega), if_neg (by omega), if_pos hk, if_pos (by omega)]
  rw [e1]
  clear e1
  obtain ⟨W1, hW1, hN1, gm, gc, gx, gp, gq⟩ := thing_mem w #[tv, sv] (cmL C.kind C.name C.other C.off C.count drive keep R C.dn dc) #[encStr C.name, v]
  obtain ⟨c0, c1, c2, c3, c4, c5, c6, c7⟩ := cmd_cells gc.out
  rw [hk] at c0
  have x0 := gx.out.cell 0
  have x1 := gx.out.cell 1
  have xf := gx.out.frozen 1
  simp at x0 x1
  have hNH := Lib.hid hN1
  have ht1 := Lib.hid (TL.new ht hN1)
  have hs1 := Lib.hid (SL.new hs hN1)
  have hv1 := Lib.hid (hv.new hN1)
  have hC1 := Lib.hid (hC.new hN1)
  have hPH := Lib.hid hP
  obtain ⟨A, n, rfl⟩ := ht.form
  obtain ⟨B, m, rfl⟩ := hs.form
  obtain ⟨k, j, rfl⟩ := hv.form
  have k0 := gm.out.cell 0
  have k1 := gm.out.cell 1
  simp at k0 k1
  obtain ⟨⟨r0, r1, r2, r3, r4⟩, ⟨y0, y1, y2, y3, y4⟩, ⟨r5, r6, y5, y6⟩, hx⟩ := out_cells gp.out gq.out (by omega)
  have hf := Lib.hid (md_fin (t := Td.no 1) (s := s) gp.out gq.out (by omega) (by omega) hNH.out (TdV.no W1 1) ht1.out hs1.out).drew
  have f1 : ¬ (C.dn : Int) < 1 := by omega
  have f2 : (400 : Int) < (C.dn : Int) := by omega
  clear hd
  clear hN1 ht hs hv hC hk hP
  go_enter Try.func21, Try.ntmps21
  go_upto_region 1 with fail
  rw [← hW1]
  clear hW1
  rw [show w.heap.size + 1 + 1 + 1 + 1 = w.heap.size + 4 from rfl, show w.heap.size + 1 + 1 + 1 = w.heap.size + 3 from rfl, show w.heap.size + 1 + 1 = w.heap.size + 2 from rfl]
  go_wp2
  go_region
  all_goals go_wp2
  all_goals exact bodyPost_ret (by simp [results, Try.results21, go_sem, hx.out]) rfl hf.out
set_option maxHeartbeats 1000000 in
theorem thing_off0 (tv sv v : Value) (s : PS) (b : By) (C : Cm) (drive keep : Int) (R : Option Addr) (dc : Nat) (w : World) (ht : TL w tv s.ths) (hs : SL w sv s.shs) (hv : Bs w v b) (hb : b.n ≤ 1024) (hP : OkP s) (hC : CmOk w C R dc) (hk : C.kind = 2) (hd : ¬ (C.dn = 0 ∨ 400 < C.dn)) (ho : C.off < 0) :
    Calls Try.prog 21 #[.agg #[tv, sv], .agg (cmL C.kind C.name C.other C.off C.count drive keep R C.dn dc), .agg #[encStr C.name, v]] w (MdP (thingT s b C).1 (thingT s b C).2 w) := by
  have e1 : thingT s b C = (Td.no 2, s) := by unfold thingT; rw [if_neg (by omega), if_neg (by omega), if_pos hk, if_neg (by omega), if_pos (by omega)]
  rw [e1]
  clear e1
  obtain ⟨W1, hW1, hN1, gm, gc, gx, gp, gq⟩ := thing_mem w #[tv, sv] (cmL C.kind C.name C.other C.off C.count drive keep R C.dn dc) #[encStr C.name, v]
  obtain ⟨c0, c1, c2, c3, c4, c5, c6, c7⟩ := cmd_cells gc.out
  rw [hk] at c0
  have x0 := gx.out.cell 0
  have x1 := gx.out.cell 1
  have xf := gx.out.frozen 1
  simp at x0 x1
  have hNH := Lib.hid hN1
  have ht1 := Lib.hid (TL.new ht hN1)
  have hs1 := Lib.hid (SL.new hs hN1)
  have hv1 := Lib.hid (hv.new hN1)
  have hC1 := Lib.hid (hC.new hN1)
  have hPH := Lib.hid hP
  obtain ⟨A, n, rfl⟩ := ht.form
  obtain ⟨B, m, rfl⟩ := hs.form
  obtain ⟨k, j, rfl⟩ := hv.form
  have k0 := gm.out.cell 0
  have k1 := gm.out.cell 1
  simp at k0 k1
  obtain ⟨⟨r0, r1, r2, r3, r4⟩, ⟨y0, y1, y2, y3, y4⟩, ⟨r5, r6, y5, y6⟩, hx⟩ := out_cells gp.out gq.out (by omega)
  have hf := Lib.hid (md_fin (t := Td.no 2) (s := s) gp.out gq.out (by omega) (by omega) hNH.out (TdV.no W1 2) ht1.out hs1.out).drew
  have f1 : ¬ (C.dn : Int) < 1 := by omega
  have f2 : ¬ (400 : Int) < (C.dn : Int) := by omega
  clear hd
  clear hN1 ht hs hv hC hk hP
  go_enter Try.func21, Try.ntmps21
  go_upto_region 1 with fail
  rw [← hW1]
  clear hW1
  rw [show w.heap.size + 1 + 1 + 1 + 1 = w.heap.size + 4 from rfl, show w.heap.size + 1 + 1 + 1 = w.heap.size + 3 from rfl, show w.heap.size + 1 + 1 = w.heap.size + 2 from rfl]
  go_wp2
  go_region
  all_goals go_wp2
  all_goals exact bodyPost_ret (by simp [results, Try.results21, go_sem, hx.out]) rfl hf.out
set_option maxHeartbeats 1000000 in
theorem thing_off1 (tv sv v : Value) (s : PS) (b : By) (C : Cm) (drive keep : Int) (R : Option Addr) (dc : Nat) (w : World) (ht : TL w tv s.ths) (hs : SL w sv s.shs) (hv : Bs w v b) (hb : b.n ≤ 1024) (hP : OkP s) (hC : CmOk w C R dc) (hk : C.kind = 2) (hd : ¬ (C.dn = 0 ∨ 400 < C.dn)) (ho : ¬ C.off < 0) (hp : 1024 < C.off) :
    Calls Try.prog 21 #[.agg #[tv, sv], .agg (cmL C.kind C.name C.other C.off C.count drive keep R C.dn dc), .agg #[encStr C.name, v]] w (MdP (thingT s b C).1 (thingT s b C).2 w) := by
  have e1 : thingT s b C = (Td.no 2, s) := by unfold thingT; rw [if_neg (by omega), if_neg (by omega), if_pos hk, if_neg (by omega), if_pos (by omega)]
  rw [e1]
  clear e1
  obtain ⟨W1, hW1, hN1, gm, gc, gx, gp, gq⟩ := thing_mem w #[tv, sv] (cmL C.kind C.name C.other C.off C.count drive keep R C.dn dc) #[encStr C.name, v]
  obtain ⟨c0, c1, c2, c3, c4, c5, c6, c7⟩ := cmd_cells gc.out
  rw [hk] at c0
  have x0 := gx.out.cell 0
  have x1 := gx.out.cell 1
  have xf := gx.out.frozen 1
  simp at x0 x1
  have hNH := Lib.hid hN1
  have ht1 := Lib.hid (TL.new ht hN1)
  have hs1 := Lib.hid (SL.new hs hN1)
  have hv1 := Lib.hid (hv.new hN1)
  have hC1 := Lib.hid (hC.new hN1)
  have hPH := Lib.hid hP
  obtain ⟨A, n, rfl⟩ := ht.form
  obtain ⟨B, m, rfl⟩ := hs.form
  obtain ⟨k, j, rfl⟩ := hv.form
  have k0 := gm.out.cell 0
  have k1 := gm.out.cell 1
  simp at k0 k1
  obtain ⟨⟨r0, r1, r2, r3, r4⟩, ⟨y0, y1, y2, y3, y4⟩, ⟨r5, r6, y5, y6⟩, hx⟩ := out_cells gp.out gq.out (by omega)
  have hf := Lib.hid (md_fin (t := Td.no 2) (s := s) gp.out gq.out (by omega) (by omega) hNH.out (TdV.no W1 2) ht1.out hs1.out).drew
  have f1 : ¬ (C.dn : Int) < 1 := by omega
  have f2 : ¬ (400 : Int) < (C.dn : Int) := by omega
  clear hd
  clear hN1 ht hs hv hC hk hP
  go_enter Try.func21, Try.ntmps21
  go_upto_region 1 with fail
  rw [← hW1]
  clear hW1
  rw [show w.heap.size + 1 + 1 + 1 + 1 = w.heap.size + 4 from rfl, show w.heap.size + 1 + 1 + 1 = w.heap.size + 3 from rfl, show w.heap.size + 1 + 1 = w.heap.size + 2 from rfl]
  go_wp2
  go_region
  all_goals go_wp2
  all_goals exact bodyPost_ret (by simp [results, Try.results21, go_sem, hx.out]) rfl hf.out
set_option maxHeartbeats 1000000 in
theorem thing_off2 (tv sv v : Value) (s : PS) (b : By) (C : Cm) (drive keep : Int) (R : Option Addr) (dc : Nat) (w : World) (ht : TL w tv s.ths) (hs : SL w sv s.shs) (hv : Bs w v b) (hb : b.n ≤ 1024) (hP : OkP s) (hC : CmOk w C R dc) (hk : C.kind = 2) (hd : ¬ (C.dn = 0 ∨ 400 < C.dn)) (ho : ¬ C.off < 0) (hp : ¬ 1024 < C.off) (hq : 1024 < C.off + C.dn) :
    Calls Try.prog 21 #[.agg #[tv, sv], .agg (cmL C.kind C.name C.other C.off C.count drive keep R C.dn dc), .agg #[encStr C.name, v]] w (MdP (thingT s b C).1 (thingT s b C).2 w) := by
  have e1 : thingT s b C = (Td.no 2, s) := by unfold thingT; rw [if_neg (by omega), if_neg (by omega), if_pos hk, if_neg (by omega), if_pos (by omega)]
  rw [e1]
  clear e1
  obtain ⟨W1, hW1, hN1, gm, gc, gx, gp, gq⟩ := thing_mem w #[tv, sv] (cmL C.kind C.name C.other C.off C.count drive keep R C.dn dc) #[encStr C.name, v]
  obtain ⟨c0, c1, c2, c3, c4, c5, c6, c7⟩ := cmd_cells gc.out
  rw [hk] at c0
  have x0 := gx.out.cell 0
  have x1 := gx.out.cell 1
  have xf := gx.out.frozen 1
  simp at x0 x1
  have hNH := Lib.hid hN1
  have ht1 := Lib.hid (TL.new ht hN1)
  have hs1 := Lib.hid (SL.new hs hN1)
  have hv1 := Lib.hid (hv.new hN1)
  have hC1 := Lib.hid (hC.new hN1)
  have hPH := Lib.hid hP
  obtain ⟨A, n, rfl⟩ := ht.form
  obtain ⟨B, m, rfl⟩ := hs.form
  obtain ⟨k, j, rfl⟩ := hv.form
  have k0 := gm.out.cell 0
  have k1 := gm.out.cell 1
  simp at k0 k1
  obtain ⟨⟨r0, r1, r2, r3, r4⟩, ⟨y0, y1, y2, y3, y4⟩, ⟨r5, r6, y5, y6⟩, hx⟩ := out_cells gp.out gq.out (by omega)
  have hf := Lib.hid (md_fin (t := Td.no 2) (s := s) gp.out gq.out (by omega) (by omega) hNH.out (TdV.no W1 2) ht1.out hs1.out).drew
  have f1 : ¬ (C.dn : Int) < 1 := by omega
  have f2 : ¬ (400 : Int) < (C.dn : Int) := by omega
  clear hd
  clear hN1 ht hs hv hC hk hP
  go_enter Try.func21, Try.ntmps21
  go_upto_region 1 with fail
  rw [← hW1]
  clear hW1
  rw [show w.heap.size + 1 + 1 + 1 + 1 = w.heap.size + 4 from rfl, show w.heap.size + 1 + 1 + 1 = w.heap.size + 3 from rfl, show w.heap.size + 1 + 1 = w.heap.size + 2 from rfl]
  go_wp2
  go_region
  all_goals go_wp2
  all_goals exact bodyPost_ret (by simp [results, Try.results21, go_sem, hx.out]) rfl hf.out
set_option maxHeartbeats 1000000 in
theorem thing_count0 (tv sv v : Value) (s : PS) (b : By) (C : Cm) (drive keep : Int) (R : Option Addr) (dc : Nat) (w : World) (ht : TL w tv s.ths) (hs : SL w sv s.shs) (hv : Bs w v b) (hb : b.n ≤ 1024) (hP : OkP s) (hC : CmOk w C R dc) (hk : C.kind = 4) (ho : C.count < 0) :
    Calls Try.prog 21 #[.agg #[tv, sv], .agg (cmL C.kind C.name C.other C.off C.count drive keep R C.dn dc), .agg #[encStr C.name, v]] w (MdP (thingT s b C).1 (thingT s b C).2 w) := by
  have e1 : thingT s b C = (Td.no 2, s) := by unfold thingT; rw [if_neg (by omega), if_neg (by omega), if_neg (by omega), if_pos (by omega)]
  rw [e1]
  clear e1
  obtain ⟨W1, hW1, hN1, gm, gc, gx, gp, gq⟩ := thing_mem w #[tv, sv] (cmL C.kind C.name C.other C.off C.count drive keep R C.dn dc) #[encStr C.name, v]
  obtain ⟨c0, c1, c2, c3, c4, c5, c6, c7⟩ := cmd_cells gc.out
  rw [hk] at c0
  have x0 := gx.out.cell 0
  have x1 := gx.out.cell 1
  have xf := gx.out.frozen 1
  simp at x0 x1
  have hNH := Lib.hid hN1
  have ht1 := Lib.hid (TL.new ht hN1)
  have hs1 := Lib.hid (SL.new hs hN1)
  have hv1 := Lib.hid (hv.new hN1)
  have hC1 := Lib.hid (hC.new hN1)
  have hPH := Lib.hid hP
  obtain ⟨A, n, rfl⟩ := ht.form
  obtain ⟨B, m, rfl⟩ := hs.form
  obtain ⟨k, j, rfl⟩ := hv.form
  have k0 := gm.out.cell 0
  have k1 := gm.out.cell 1
  simp at k0 k1
  obtain ⟨⟨r0, r1, r2, r3, r4⟩, ⟨y0, y1, y2, y3, y4⟩, ⟨r5, r6, y5, y6⟩, hx⟩ := out_cells gp.out gq.out (by omega)
  have hf := Lib.hid (md_fin (t := Td.no 2) (s := s) gp.out gq.out (by omega) (by omega) hNH.out (TdV.no W1 2) ht1.out hs1.out).drew
  clear hN1 ht hs hv hC hk hP
  go_enter Try.func21, Try.ntmps21
  go_upto_region 1 with fail
  rw [← hW1]
  clear hW1
  rw [show w.heap.size + 1 + 1 + 1 + 1 = w.heap.size + 4 from rfl, show w.heap.size + 1 + 1 + 1 = w.heap.size + 3 from rfl, show w.heap.size + 1 + 1 = w.heap.size + 2 from rfl]
  go_wp2
  go_region
  all_goals go_wp2
  all_goals exact bodyPost_ret (by simp [results, Try.results21, go_sem, hx.out]) rfl hf.out
set_option maxHeartbeats 1000000 in
theorem thing_count1 (tv sv v : Value) (s : PS) (b : By) (C : Cm) (drive keep : Int) (R : Option Addr) (dc : Nat) (w : World) (ht : TL w tv s.ths) (hs : SL w sv s.shs) (hv : Bs w v b) (hb : b.n ≤ 1024) (hP : OkP s) (hC : CmOk w C R dc) (hk : C.kind = 4) (ho : ¬ C.count < 0) (hp : 1024 < C.count) :
    Calls Try.prog 21 #[.agg #[tv, sv], .agg (cmL C.kind C.name C.other C.off C.count drive keep R C.dn dc), .agg #[encStr C.name, v]] w (MdP (thingT s b C).1 (thingT s b C).2 w) := by
  have e1 : thingT s b C = (Td.no 2, s) := by unfold thingT; rw [if_neg (by omega), if_neg (by omega), if_neg (by omega), if_pos (by omega)]
  rw [e1]
  clear e1
  obtain ⟨W1, hW1, hN1, gm, gc, gx, gp, gq⟩ := thing_mem w #[tv, sv] (cmL C.kind C.name C.other C.off C.count drive keep R C.dn dc) #[encStr C.name, v]
  obtain ⟨c0, c1, c2, c3, c4, c5, c6, c7⟩ := cmd_cells gc.out
  rw [hk] at c0
  have x0 := gx.out.cell 0
  have x1 := gx.out.cell 1
  have xf := gx.out.frozen 1
  simp at x0 x1
  have hNH := Lib.hid hN1
  have ht1 := Lib.hid (TL.new ht hN1)
  have hs1 := Lib.hid (SL.new hs hN1)
  have hv1 := Lib.hid (hv.new hN1)
  have hC1 := Lib.hid (hC.new hN1)
  have hPH := Lib.hid hP
  obtain ⟨A, n, rfl⟩ := ht.form
  obtain ⟨B, m, rfl⟩ := hs.form
  obtain ⟨k, j, rfl⟩ := hv.form
  have k0 := gm.out.cell 0
  have k1 := gm.out.cell 1
  simp at k0 k1
  obtain ⟨⟨r0, r1, r2, r3, r4⟩, ⟨y0, y1, y2, y3, y4⟩, ⟨r5, r6, y5, y6⟩, hx⟩ := out_cells gp.out gq.out (by omega)
  have hf := Lib.hid (md_fin (t := Td.no 2) (s := s) gp.out gq.out (by omega) (by omega) hNH.out (TdV.no W1 2) ht1.out hs1.out).drew
  clear hN1 ht hs hv hC hk hP
  go_enter Try.func21, Try.ntmps21
  go_upto_region 1 with fail
  rw [← hW1]
  clear hW1
  rw [show w.heap.size + 1 + 1 + 1 + 1 = w.heap.size + 4 from rfl, show w.heap.size + 1 + 1 + 1 = w.heap.size + 3 from rfl, show w.heap.size + 1 + 1 = w.heap.size + 2 from rfl]
  go_wp2
  go_region
  all_goals go_wp2
  all_goals exact bodyPost_ret (by simp [results, Try.results21, go_sem, hx.out]) rfl hf.out
set_option maxHeartbeats 1000000 in
theorem thing_remove (tv sv v : Value) (s : PS) (b : By) (C : Cm) (drive keep : Int) (R : Option Addr) (dc : Nat) (w : World) (ht : TL w tv s.ths) (hs : SL w sv s.shs) (hv : Bs w v b) (hb : b.n ≤ 1024) (hP : OkP s) (hC : CmOk w C R dc) (hk : C.kind = 5) :
    Calls Try.prog 21 #[.agg #[tv, sv], .agg (cmL C.kind C.name C.other C.off C.count drive keep R C.dn dc), .agg #[encStr C.name, v]] w (MdP (thingT s b C).1 (thingT s b C).2 w) := by
  have e1 : thingT s b C = (Td.no 0, ⟨del s.ths C.name, s.shs⟩) := by unfold thingT; rw [if_neg (by omega), if_pos hk]
  rw [e1]
  clear e1
  obtain ⟨W1, hW1, hN1, gm, gc, gx, gp, gq⟩ := thing_mem w #[tv, sv] (cmL C.kind C.name C.other C.off C.count drive keep R C.dn dc) #[encStr C.name, v]
  obtain ⟨c0, c1, c2, c3, c4, c5, c6, c7⟩ := cmd_cells gc.out
  rw [hk] at c0
  have x0 := gx.out.cell 0
  have x1 := gx.out.cell 1
  have xf := gx.out.frozen 1
  simp at x0 x1
  have hNH := Lib.hid hN1
  have ht1 := Lib.hid (TL.new ht hN1)
  have hs1 := Lib.hid (SL.new hs hN1)
  have hv1 := Lib.hid (hv.new hN1)
  have hC1 := Lib.hid (hC.new hN1)
  have hPH := Lib.hid hP
  have hcl := Lib.hid (withoutThing_any tv s.ths C.name W1.drew (TL.new ht hN1.drew) (by have := hP.th.len; omega))
  obtain ⟨A, n, rfl⟩ := ht.form
  obtain ⟨B, m, rfl⟩ := hs.form
  obtain ⟨k, j, rfl⟩ := hv.form
  have k0 := gm.out.cell 0
  have k1 := gm.out.cell 1
  simp at k0 k1
  have hkeep : Hid (∀ w', New W1 w' → w'.cell? ⟨w.heap.size, 0, none⟩ = some (.slice A s.ths.length n) ∧ w'.cell? ⟨w.heap.size + 1, 1, none⟩ = some (encStr C.name) ∧ w'.cell? ⟨w.heap.size, 1, none⟩ = some (.slice B s.shs.length m)) := fun w' h => ⟨(h.cell (lt_of_cell k0)).trans k0, (h.cell (lt_of_cell c1)).trans c1, (h.cell (lt_of_cell k1)).trans k1⟩
  have hS1 := hkeep.out W1.drew (New.refl _).drew
  clear hN1 ht hs hv hC hk hP
  go_enter Try.func21, Try.ntmps21
  go_upto_region 1 with fail
  rw [← hW1]
  clear hW1
  rw [show w.heap.size + 1 + 1 + 1 + 1 = w.heap.size + 4 from rfl, show w.heap.size + 1 + 1 + 1 = w.heap.size + 3 from rfl, show w.heap.size + 1 + 1 = w.heap.size + 2 from rfl]
  go_wp2
  go_region_held3 (fun w' => w'.cell? ⟨w.heap.size, 0, none⟩ = some (.slice A s.ths.length n) ∧ w'.cell? ⟨w.heap.size + 1, 1, none⟩ = some (encStr C.name) ∧ w'.cell? ⟨w.heap.size, 1, none⟩ = some (.slice B s.shs.length m))
    (first
      | with_reducible exact hS1
      | with_reducible exact hS3
      | with_reducible exact hS4
      | with_reducible exact hS5
      | with_reducible assumption)
    (first
      | (go_at_call 32; refine hcl.out.mono ?_; rintro e w3 ⟨u, rfl, hu, hn3⟩
         obtain ⟨A', k', rfl⟩ := hu.form
         obtain ⟨⟨r0, r1, r2, r3, r4⟩, ⟨y0, y1, y2, y3, y4⟩, ⟨r5, r6, y5, y6⟩, hx⟩ := out_cells (gp.out.drew.new hn3) (gq.out.drew.new hn3) (by omega)
         have hS3 := hkeep.out w3 (New.next (New.refl _).drew hn3)
         have hS4 : (put5 w3 (w.heap.size + 3) (.int .i64 0) (.bool false) (.int .i64 0) (.slice none 0 0) (.slice none 0 0)).cell? ⟨w.heap.size, 0, none⟩ = some (.slice A s.ths.length n) ∧ (put5 w3 (w.heap.size + 3) (.int .i64 0) (.bool false) (.int .i64 0) (.slice none 0 0) (.slice none 0 0)).cell? ⟨w.heap.size + 1, 1, none⟩ = some (encStr C.name) ∧ (put5 w3 (w.heap.size + 3) (.int .i64 0) (.bool false) (.int .i64 0) (.slice none 0 0) (.slice none 0 0)).cell? ⟨w.heap.size, 1, none⟩ = some (.slice B s.shs.length m) := by
           obtain ⟨u0, u1, u2⟩ := hS3
           exact ⟨(put5_alt _ _ _ _ _ _ _).cell u0 (by dsimp only; omega), (put5_alt _ _ _ _ _ _ _).cell u1 (by dsimp only; omega), (put5_alt _ _ _ _ _ _ _).cell u2 (by dsimp only; omega)⟩
         have hS5 : (putM w3 (w.heap.size + 3) (w.heap.size + 4) (.int .i64 0) (.bool false) (.int .i64 0) (.slice none 0 0) (.slice none 0 0) (.slice A' (del s.ths C.name).length k') (.slice B s.shs.length m)).cell? ⟨w.heap.size, 0, none⟩ = some (.slice A s.ths.length n) ∧ (putM w3 (w.heap.size + 3) (w.heap.size + 4) (.int .i64 0) (.bool false) (.int .i64 0) (.slice none 0 0) (.slice none 0 0) (.slice A' (del s.ths C.name).length k') (.slice B s.shs.length m)).cell? ⟨w.heap.size + 1, 1, none⟩ = some (encStr C.name) ∧ (putM w3 (w.heap.size + 3) (w.heap.size + 4) (.int .i64 0) (.bool false) (.int .i64 0) (.slice none 0 0) (.slice none 0 0) (.slice A' (del s.ths C.name).length k') (.slice B s.shs.length m)).cell? ⟨w.heap.size, 1, none⟩ = some (.slice B s.shs.length m) := by
           obtain ⟨u0, u1, u2⟩ := hS3
           exact ⟨(putM_alt _ _ _ _ _ _ _ _ _ _).cell u0 (by dsimp only; omega), (putM_alt _ _ _ _ _ _ _ _ _ _).cell u1 (by dsimp only; omega), (putM_alt _ _ _ _ _ _ _ _ _ _).cell u2 (by dsimp only; omega)⟩
         have hf := Lib.hid (md_fin (t := Td.no 0) (s := ⟨del s.ths C.name, s.shs⟩) (gp.out.drew.new hn3) (gq.out.drew.new hn3) (by omega) (by omega) (hNH.out.drew.next hn3) (TdV.no w3 0) hu (SL.new hs1.out ((New.refl _).drew.next hn3)))
         clear hu hn3))
  clear hS1 hS3 hS4 hS5 hkeep
  go_wp2
  exact bodyPost_ret (by simp [results, Try.results21, go_sem, hx.out]) rfl hf.out
end Go.Proofs.Ytmpaheaedaeakaa.pool
