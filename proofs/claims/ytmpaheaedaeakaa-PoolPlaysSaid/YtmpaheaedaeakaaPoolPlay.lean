/-
  Contract of pool.Play.
-/
import Derived.Test.YtmpaheaedaeakaaPoolDo3
namespace Go.Proofs.Ytmpaheaedaeakaa.pool
open Go.ChangeShapes Go.WideShapes Go.ChangeAt Go.RowKit Go.Proofs.Ytmpaheaedaeakaa.kit Go.Deep Go.Maps
set_option linter.unusedVariables false
set_option maxRecDepth 100000
/-- the states of a play; what is told -/
def runP (Cs : Nat → Cm) : Nat → PS
  | 0 => PS.start
  | i + 1 => (doT (runP Cs i) (Cs i)).2
def tellP (Cs : Nat → Cm) (i : Nat) : Td := (doT (runP Cs i) (Cs i)).1
theorem run_ok (Cs : Nat → Cm) : ∀ i, OkP (runP Cs i)
  | 0 => OkP.start
  | i + 1 => doT_ok (run_ok Cs i) (Cs i)
/-- commands, read in memory -/
def RdC (w : World) (A : Option Addr) (m : Nat) (Cs : Nat → Cm) (dr kp : Nat → Int) (R : Nat → Option Addr) (dc : Nat → Nat) : Prop :=
  m ≤ maxLen ∧ (0 < m → ∃ b off, A = some ⟨b, off, none⟩ ∧ b < w.heap.size ∧ ∀ i, i < m → w.cell? ⟨b, off + i * 8, none⟩ = some (.int .i64 (Cs i).kind) ∧ w.cell? ⟨b, off + i * 8 + 1, none⟩ = some (encStr (Cs i).name) ∧ w.cell? ⟨b, off + i * 8 + 2, none⟩ = some (encStr (Cs i).other) ∧ w.cell? ⟨b, off + i * 8 + 3, none⟩ = some (.int .i64 (Cs i).off) ∧ w.cell? ⟨b, off + i * 8 + 4, none⟩ = some (.int .i64 (Cs i).count) ∧ w.cell? ⟨b, off + i * 8 + 5, none⟩ = some (.int .i64 (dr i)) ∧ w.cell? ⟨b, off + i * 8 + 6, none⟩ = some (.int .i64 (kp i)) ∧ w.cell? ⟨b, off + i * 8 + 7, none⟩ = some (.slice (R i) (Cs i).dn (dc i))) ∧
  ∀ i, i < m → CmOk w (Cs i) (R i) (dc i)
theorem RdC.new {w w' : World} {A : Option Addr} {m : Nat} {Cs : Nat → Cm} {dr kp : Nat → Int} {R : Nat → Option Addr} {dc : Nat → Nat} (h : RdC w A m Cs dr kp R dc) (hn : New w w') : RdC w' A m Cs dr kp R dc :=
  ⟨h.1, fun h0 => by
    obtain ⟨b, off, hA, hb, hc⟩ := h.2.1 h0
    exact ⟨b, off, hA, Nat.lt_of_lt_of_le hb hn.size, fun i hi => by
      obtain ⟨h0, h1, h2, h3, h4, h5, h6, h7⟩ := hc i hi
      exact ⟨(hn.cell hb).trans h0, (hn.cell hb).trans h1, (hn.cell hb).trans h2, (hn.cell hb).trans h3, (hn.cell hb).trans h4, (hn.cell hb).trans h5, (hn.cell hb).trans h6, (hn.cell hb).trans h7⟩⟩, fun i hi => (h.2.2 i hi).new hn⟩
/-- answers, as cells -/
def tdL (T : Nat → Td) (dv nv : Nat → Value) (m : Nat) : List Value := (List.range m).flatMap fun i => [.int .i64 (T i).code, .bool false, .int .i64 ((T i).size : Nat), dv i, nv i]
theorem tdL_len (T : Nat → Td) (dv nv : Nat → Value) : ∀ m, (tdL T dv nv m).length = m * 5
  | 0 => rfl
  | m + 1 => by
    have := tdL_len T dv nv m
    unfold tdL at this ⊢
    rw [List.range_succ, List.flatMap_append, List.length_append, this]
    simp
    omega
theorem tdL_more (T : Nat → Td) (dv nv : Nat → Value) (m : Nat) (u v : Value) : tdL T (fun i => if i = m then u else dv i) (fun i => if i = m then v else nv i) (m + 1) = tdL T dv nv m ++ [.int .i64 (T m).code, .bool false, .int .i64 ((T m).size : Nat), u, v] := by
  unfold tdL
  rw [List.range_succ, List.flatMap_append]
  congr 1
  · rw [List.flatMap_def, List.flatMap_def]
    congr 1
    apply List.map_congr_left
    intro i hi
    have hi := List.mem_range.1 hi
    simp [show i ≠ m by omega]
  · simp
theorem tdL_at (T : Nat → Td) (dv nv : Nat → Value) : ∀ m i, i < m → (tdL T dv nv m)[i * 5]? = some (.int .i64 (T i).code) ∧ (tdL T dv nv m)[i * 5 + 1]? = some (.bool false) ∧ (tdL T dv nv m)[i * 5 + 2]? = some (.int .i64 ((T i).size : Nat)) ∧ (tdL T dv nv m)[i * 5 + 3]? = some (dv i) ∧ (tdL T dv nv m)[i * 5 + 4]? = some (nv i)
  | 0, i, h => absurd h (Nat.not_lt_zero i)
  | m + 1, i, h => by
    have hl := tdL_len T dv nv m
    have hr := tdL_at T dv nv m i
    unfold tdL at hl hr ⊢
    rw [List.range_succ, List.flatMap_append]
    by_cases e : i < m
    · rw [List.getElem?_append_left (by omega), List.getElem?_append_left (by omega), List.getElem?_append_left (by omega), List.getElem?_append_left (by omega), List.getElem?_append_left (by omega)]
      exact hr e
    · have : i = m := by omega
      subst this
      rw [List.getElem?_append_right (by omega), List.getElem?_append_right (by omega), List.getElem?_append_right (by omega), List.getElem?_append_right (by omega), List.getElem?_append_right (by omega), hl]
      simp
/-- what a play answers -/
def PlO (T : Nat → Td) (m : Nat) (cd : Int) (w : World) (e : Ending) (w' : World) : Prop :=
  (∃ v dv nv, e = .returned (.tuple #[v, .int .i64 cd]) ∧ w'.ownsRow w.heap.size 37 5 v m (tdL T dv nv m) ∧ ∀ j, j < m → Bs w' (dv j) (T j).dat ∧ Ns w' (nv j) (T j).names) ∧ New w w'
theorem PlO.no {T : Nat → Td} {cd : Int} {w w' : World} {e : Ending} (he : e = .returned (.tuple #[.slice none 0 0, .int .i64 cd])) (hn : New w w') : PlO T 0 cd w e w' :=
  ⟨⟨_, fun _ => .slice none 0 0, fun _ => .slice none 0 0, he, World.ownsRow_nil _ _ _ _, fun j hj => absurd hj (Nat.not_lt_zero j)⟩, hn⟩
theorem own_typed {w : World} {b e z n : Nat} {v : Value} {x : List Value} (h : w.ownsRow b e z v n x) {g : Nat} (hg : v.ownBlock = some g) : ∃ cs, Blk w g e cs := by
  rcases h.2 with ⟨h0, _⟩ | ⟨g', cap, cur, h0, _, hg0, _⟩
  · rw [h0] at hg; cases hg
  · rw [h0] at hg
    have : g' = g := by simpa [Value.ownBlock] using hg
    subst this
    exact ⟨cur, hg0⟩
theorem infoTold : (Try.prog.info? 37).map (fun i => (i.zero, i.size, i.bytes)) = some (some (.agg #[.int .i64 0, .bool false, .int .i64 0, .slice none 0 0, .slice none 0 0]), 5, 72) := by kernel_rfl
theorem New_any (w : World) : Calls Try.prog 7 #[.slice none 0 0] w fun e w' => e = .returned (ptr (w.heap.size + 2)) ∧ St w.heap.size (w.heap.size + 2) w.heap.size (w.heap.size + 1) 0 PS.start w' ∧ New w w' := by
  have hmm := @run_makeMap Try.prog
  obtain ⟨W3, hW3⟩ : ∃ W3, W3 = ((w.alloc (.map #[] 0)).alloc (.map #[] 0)).alloc (.cells #[.map (some w.heap.size), .map (some (w.heap.size + 1)), .slice none 0 0] 50) := ⟨_, rfl⟩
  have hN : Hid (New w W3) := by show New w W3; rw [hW3]; exact (((New.refl w).alloc _).alloc _).alloc _
  have hS : Hid (St w.heap.size (w.heap.size + 2) w.heap.size (w.heap.size + 1) 0 PS.start W3) := by
    show St _ _ _ _ _ _ _
    rw [hW3]
    have h1 : MP (Bs (((w.alloc (.map #[] 0)).alloc (.map #[] 0)).alloc (.cells #[.map (some w.heap.size), .map (some (w.heap.size + 1)), .slice none 0 0] 50))) (((w.alloc (.map #[] 0)).alloc (.map #[] 0)).alloc (.cells #[.map (some w.heap.size), .map (some (w.heap.size + 1)), .slice none 0 0] 50)) w.heap.size 0 [] :=
      (MP.made (rd := fun _ _ => False) w).new (((New.refl _).alloc _).alloc _) fun k y h => by cases h
    have h2 := (MP.made (rd := fun _ _ => False) (α := Ths) (w.alloc (.map #[] 0))).new (rd' := Sn w.heap.size w.heap.size (w.heap.size + 1) 0 (((w.alloc (.map #[] 0)).alloc (.map #[] 0)).alloc (.cells #[.map (some w.heap.size), .map (some (w.heap.size + 1)), .slice none 0 0] 50))) ((New.refl _).alloc (.cells #[.map (some w.heap.size), .map (some (w.heap.size + 1)), .slice none 0 0] 50)) fun k y h => by cases h
    have h3 := Blk.fresh ((w.alloc (.map #[] 0)).alloc (.map #[] 0)) 50 #[.map (some w.heap.size), .map (some (w.heap.size + 1)), .slice none 0 0]
    refine ⟨by simpa using h3, h1, by rw [show PS.start.shs = [] from rfl]; simpa using h2, by omega, by omega⟩
  go_enter Try.func7, Try.ntmps7
  go_wp2_with fail
  rw [← hW3]
  clear hW3
  exact bodyPost_ret (v := ptr (w.heap.size + 2)) (by simp [results, Try.results7, go_sem]) rfl ⟨rfl, hS.out, hN.out⟩
theorem Play_long (A : Option Addr) (m c : Nat) (T : Nat → Td) (w : World) (hm : 300 < m) (hmx : m ≤ maxLen) : Calls Try.prog 4 #[.slice A m c] w (PlO T 0 1 w) := by
  unfold maxLen at hmx
  have hm3 : (300 : Int) < (m : Int) := by omega
  go_enter Try.func4, Try.ntmps4
  go_wp2
  exact bodyPost_ret (v := .tuple #[.slice none 0 0, .int .i64 1]) (by simp [results, Try.results4, go_sem]) rfl (PlO.no rfl (New.refl _))
set_option maxHeartbeats 2000000 in
theorem Play_ok (m c : Nat) (A : Option Addr) (Cs : Nat → Cm) (dr kp : Nat → Int) (R : Nat → Option Addr) (dc : Nat → Nat) (w : World) (hm : m ≤ 300) (hJ : RdC w A m Cs dr kp R dc) :
    Calls Try.prog 4 #[.slice A m c] w (PlO (tellP Cs) m 0 w) := by
  obtain ⟨i0, hi0, hz0, hz1, hz2⟩ := info_parts infoTold
  have hJH := Lib.hid hJ
  have g3 : ¬ (300 : Int) < (m : Int) := by omega
  obtain ⟨S, hS⟩ : ∃ S, Hid (S = runP Cs) := ⟨_, rfl⟩
  obtain ⟨T, hT⟩ : ∃ T, Hid (T = tellP Cs) := ⟨_, rfl⟩
  rw [← hT.out]
  have hin : Hid (∀ i, OkP (S i)) := fun i => by rw [hS.out]; exact run_ok Cs i
  have hst : Hid (∀ i, (doT (S i) (Cs i)).1 = T i ∧ (doT (S i) (Cs i)).2 = S (i + 1)) := fun i => by rw [hS.out, hT.out]; exact ⟨rfl, rfl⟩
  have hS0 : PS.start = S 0 := by rw [hS.out]; rfl
  have hnw := Lib.hid (New_any w)
  rw [hS0] at hnw
  clear hJ hS0
  go_enter Try.func4, Try.ntmps4
  go_wp2_with fail
  refine hnw.out.mono ?_
  rintro e w1 ⟨rfl, hS1, hn1⟩
  have hS1 := Lib.hid hS1
  have hn1 := Lib.hid hn1
  obtain ⟨sb, hsb⟩ : ∃ sb, Hid (sb = w.heap.size + 2) := ⟨_, rfl⟩
  rw [← hsb.out] at hS1 ⊢
  show _
  dsimp only
  go_wp2_with fail
  go_loopw [14, 5] (fun x ov wr => ∃ (i ob nb : Nat) (dv nv : Nat → Value), x = .int .i64 i ∧ i ≤ m ∧ Hid (St w.heap.size sb ob nb i (S i) wr) ∧ Hid (wr.ownsRow w.heap.size 37 5 ov i (tdL T dv nv i)) ∧ Hid (∀ j, j < i → Bs wr (dv j) (T j).dat ∧ Ns wr (nv j) (T j).names) ∧ Hid (New w wr)) (fun x _ _ => m - (intOf x).toNat)
  case atStart => exact ⟨0, _, _, fun _ => .slice none 0 0, fun _ => .slice none 0 0, rfl, by omega, hS1, World.ownsRow_nil _ _ _ _, fun j hj => absurd hj (Nat.not_lt_zero j), hn1⟩
  case round =>
    obtain ⟨i, ob, nb, dv, nv, rfl, hi, hK, hO, hR, hN⟩ := hrel
    by_cases hlt : i < m
    · obtain ⟨b, off, rfl, hb, hc⟩ := hJH.out.2.1 (by omega)
      obtain ⟨e0, e1, e2, e3, e4, e5, e6, e7⟩ := hc i hlt
      replace e0 := (hN.out.cell hb).trans e0
      replace e1 := (hN.out.cell hb).trans e1
      replace e2 := (hN.out.cell hb).trans e2
      replace e3 := (hN.out.cell hb).trans e3
      replace e4 := (hN.out.cell hb).trans e4
      replace e5 := (hN.out.cell hb).trans e5
      replace e6 := (hN.out.cell hb).trans e6
      replace e7 := (hN.out.cell hb).trans e7
      have hil : (i : Int) < (m : Int) := by omega
      have hnz := hN.out.size
      have hdo := Lib.hid (fun (w' : World) (hn : New wr w') => Do_any w.heap.size sb ob nb i (S i) (Cs i) (dr i) (kp i) (R i) (dc i) w' (hK.out.new hn) (hin.out i) ((hJH.out.2.2 i hlt).new (hN.out.next hn)) (by unfold maxLen; omega) (Nat.le_trans hnz hn.size))
      rw [(hst.out i).1, (hst.out i).2] at hdo
      obtain ⟨C, hC⟩ : ∃ C, Hid (C = Cs i) := ⟨_, rfl⟩
      rw [← hC.out] at e0 e1 e2 e3 e4 e7 hdo
      obtain ⟨k, hk⟩ : ∃ k, Hid (k = C.kind) := ⟨_, rfl⟩
      obtain ⟨x1, hx1⟩ : ∃ x, Hid (x = C.name) := ⟨_, rfl⟩
      obtain ⟨x2, hx2⟩ : ∃ x, Hid (x = C.other) := ⟨_, rfl⟩
      obtain ⟨x3, hx3⟩ : ∃ x, Hid (x = C.off) := ⟨_, rfl⟩
      obtain ⟨x4, hx4⟩ : ∃ x, Hid (x = C.count) := ⟨_, rfl⟩
      obtain ⟨x5, hx5⟩ : ∃ x, Hid (x = dr i) := ⟨_, rfl⟩
      obtain ⟨x6, hx6⟩ : ∃ x, Hid (x = kp i) := ⟨_, rfl⟩
      obtain ⟨xr, hxr⟩ : ∃ x, Hid (x = R i) := ⟨_, rfl⟩
      obtain ⟨xn, hxn⟩ : ∃ x, Hid (x = C.dn) := ⟨_, rfl⟩
      obtain ⟨xc, hxc⟩ : ∃ x, Hid (x = dc i) := ⟨_, rfl⟩
      have hcmv : cmV C (dr i) (kp i) (R i) (dc i) = .agg #[.int .i64 k, encStr x1, encStr x2, .int .i64 x3, .int .i64 x4, .int .i64 x5, .int .i64 x6, .slice xr xn xc] := by
        rw [hk.out, hx1.out, hx2.out, hx3.out, hx4.out, hx5.out, hx6.out, hxr.out, hxn.out, hxc.out]
        rfl
      rw [hcmv] at hdo
      rw [← hk.out] at e0
      rw [← hx1.out] at e1
      rw [← hx2.out] at e2
      rw [← hx3.out] at e3
      rw [← hx4.out] at e4
      rw [← hx5.out] at e5
      rw [← hx6.out] at e6
      rw [← hxr.out, ← hxn.out, ← hxc.out] at e7
      clear hc hcmv
      go_upto_region 8 with fail
      obtain ⟨W2, hW2⟩ : ∃ W2, W2 = wr.alloc (.cells #[.int .i64 k, encStr x1, encStr x2, .int .i64 x3, .int .i64 x4, .int .i64 x5, .int .i64 x6, .slice xr xn xc] 34) := ⟨_, rfl⟩
      have hn2 : New wr W2 := by rw [hW2]; exact (New.refl wr).alloc _
      have hb2 : Blk W2 wr.heap.size 34 #[.int .i64 k, encStr x1, encStr x2, .int .i64 x3, .int .i64 x4, .int .i64 x5, .int .i64 x6, .slice xr xn xc] := by rw [hW2]; exact Blk.fresh _ _ _
      have q0 := hb2.cell 0
      have q1 := hb2.cell 1
      have q2 := hb2.cell 2
      have q3 := hb2.cell 3
      have q4 := hb2.cell 4
      have q5 := hb2.cell 5
      have q6 := hb2.cell 6
      have q7 := hb2.cell 7
      simp at q0 q1 q2 q3 q4 q5 q6 q7
      have hn2H := Lib.hid hn2
      rw [← hW2]
      clear hW2 hn2 hb2
      go_wp2_with fail
      refine (hdo.out W2 hn2H.out).mono ?_
      rintro e w4 hD
      obtain ⟨B1, n1, k1, B2, n2, k2, rfl⟩ := hD.form
      obtain ⟨v4, ob', nb', he4, ht4, hS4, hA4⟩ := hD
      cases he4
      have hK2 := Lib.hid (hK.out.new hn2H.out)
      have hO5 : w4.ownsRow w.heap.size 37 5 u5 i (tdL T dv nv i) := hA4.own (own_new hO.out hn2H.out) fun g hg hk => by
        obtain ⟨cs, hcs⟩ := own_typed (own_new hO.out hn2H.out) hg
        exact hK2.out.apart hcs (by decide) hk
      have hR5 : ∀ j, j < i → Bs w4 (dv j) (T j).dat ∧ Ns w4 (nv j) (T j).names := fun j hj => ⟨((hR.out j hj).1.new hn2H.out).alt hA4 fun g cs hb => hK2.out.apart hb (by decide), ((hR.out j hj).2.new hn2H.out).alt hA4 fun g cs hb => hK2.out.apart hb (by decide)⟩
      have hN4 : Hid (New w w4) := (hN.out.next hn2H.out).trans (hA4.below (by have := hn2H.out.size; omega) fun g hg => (hK2.out.lt hg).1)
      obtain ⟨du, nu, he, hdu, hnu⟩ := ht4
      injection he with he
      injection he with he
      simp only [List.cons.injEq, and_true, true_and] at he
      obtain ⟨rfl, rfl⟩ := he
      have hR5H := Lib.hid hR5
      have hS4H := Lib.hid hS4
      have hdH := Lib.hid (And.intro hdu hnu)
      have hz4 := hN4.out.size
      obtain ⟨t0, ht0⟩ : ∃ t, Hid (t = (T i).code) := ⟨_, rfl⟩
      obtain ⟨t2, ht2⟩ : ∃ t, Hid (t = (T i).size) := ⟨_, rfl⟩
      rw [← ht0.out, ← ht2.out]
      have hnx := Lib.hid (tdL_more T dv nv i (.slice B1 n1 k1) (.slice B2 n2 k2))
      rw [← ht0.out, ← ht2.out] at hnx
      clear hA4 hR5 hS4 hdu hnu q0 q1 q2 q3 q4 q5 q6 q7
      show _
      dsimp only
      go_wp2_with (at_builtin; refine wpList_append_own _ rfl _ _ 23 rfl w.heap.size 37 i0 _ 5 72 Try.underlying23 hi0 hz0 hz1 hz2 rfl (by decide) u5 i (tdL T dv nv i) rfl (hO5.alloc _) ⟨w4.heap.size, 0, none⟩ 1 1 [.int .i64 t0, .bool false, .int .i64 (t2 : Nat), .slice B1 n1 k1, .slice B2 n2 k2] rfl rfl (World.news_of_block (cs := #[.int .i64 _, .bool _, .int .i64 _, .slice _ _ _, .slice _ _ _]) (t := 37) (fr := (0, 0)) (heap_alloc_new w4 _)) (by simp [Value.oneCell']) (by unfold maxLen; omega) (by omega) (by simp; omega) ?_; intro v6 w6 hown6 hgr6 hnil6)
      have hfin : Hid (St w.heap.size sb ob' nb' (i + 1) (S (i + 1)) w6 ∧ w6.ownsRow w.heap.size 37 5 v6 (i + 1) (tdL T (fun j => if j = i then .slice B1 n1 k1 else dv j) (fun j => if j = i then .slice B2 n2 k2 else nv j) (i + 1)) ∧ (∀ j, j < i + 1 → Bs w6 (if j = i then .slice B1 n1 k1 else dv j) (T j).dat ∧ Ns w6 (if j = i then .slice B2 n2 k2 else nv j) (T j).names) ∧ New w w6) := by
        have ha : New w4 (w4.alloc (.cells #[.int .i64 t0, .bool false, .int .i64 (t2 : Nat), .slice B1 n1 k1, .slice B2 n2 k2] 37)) := (New.refl w4).alloc _
        have hOa := hO5.alloc (.cells #[.int .i64 t0, .bool false, .int .i64 (t2 : Nat), .slice B1 n1 k1, .slice B2 n2 k2] 37)
        have hal : Alt (fun g => u5.ownBlock = some g) (w4.alloc (.cells #[.int .i64 t0, .bool false, .int .i64 (t2 : Nat), .slice B1 n1 k1, .slice B2 n2 k2] 37)) w6 := Alt.grown (Alt.refl _) hgr6 fun r e => .inl e
        have hne : ∀ g cs t, Blk (w4.alloc (.cells #[.int .i64 t0, .bool false, .int .i64 (t2 : Nat), .slice B1 n1 k1, .slice B2 n2 k2] 37)) g t cs → t ≠ 37 → ¬ (u5.ownBlock = some g) := fun g cs t hb ht => own_ne_blk hOa hb (Ne.symm ht)
        refine ⟨(hS4H.out.new ha).alt hal (hne _ _ _ (hS4H.out.new ha).bk (by decide)) (fun g cs hb => hne g cs _ hb (by decide)) (fun b hm e => ?_), by rw [hnx.out]; exact hown6, fun j hj => ?_, (hN4.out.next ha).grown hgr6 fun r e => (hO5.lt r e).1⟩
        · obtain ⟨cs, hcs⟩ := own_typed hOa e
          exact blk_not_map hcs hm rfl
        · by_cases e : j = i
          · subst e
            rw [if_pos rfl, if_pos rfl]
            exact ⟨(hdH.out.1.new ha).alt hal fun g cs hb => hne g cs _ hb (by decide), (hdH.out.2.new ha).alt hal fun g cs hb => hne g cs _ hb (by decide)⟩
          · rw [if_neg e, if_neg e]
            exact ⟨((hR5H.out j (by omega)).1.new ha).alt hal fun g cs hb => hne g cs _ hb (by decide), ((hR5H.out j (by omega)).2.new ha).alt hal fun g cs hb => hne g cs _ hb (by decide)⟩
      clear hown6 hgr6 hnil6 hO5
      go_wp2
      go_roundw
      case rel => exact ⟨i + 1, ob', nb', _, _, by go_num, by omega, hfin.out.1, hfin.out.2.1, hfin.out.2.2.1, hfin.out.2.2.2⟩
      case measure => simp [intOf]; omega
    · have him : m = i := by omega
      subst him
      have hf := Lib.hid (And.intro hO.out (And.intro hR.out hN.out))
      clear hO hR hN
      go_wp2
      exact bodyPost_ret (v := .tuple #[u5, .int .i64 0]) (by simp [results, Try.results4, go_sem]) rfl ⟨⟨u5, dv, nv, rfl, hf.out.1, hf.out.2.1⟩, hf.out.2.2⟩
end Go.Proofs.Ytmpaheaedaeakaa.pool
