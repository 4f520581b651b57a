import Derived.Test.YtmpaheaedaeakaaPoolRefDoes10
import Derived.Test.YtmpaheaedaeakaaPoolRefDoes11
import Derived.Test.YtmpaheaedaeakaaPoolPlay
/-
  The reference's Model.Does: all ways.
-/
namespace Go.Proofs.Ytmpaheaedaeakaa.pool
open Go.ChangeShapes Go.WideShapes Go.ChangeAt Go.RowKit Go.Proofs.Ytmpaheaedaeakaa.kit Go.Deep Go.Maps
set_option linter.unusedVariables false
set_option maxRecDepth 100000
theorem Does_any' (tv sv : Value) (s : PS) (C : Cm) (drive keep : Int) (R : Option Addr) (dc : Nat) (w : World) (ht : TL w tv s.ths) (hs : SL w sv s.shs) (hP : OkP s) (hC : CmOk w C R dc) :
    Calls Try.prog 9 #[.agg #[tv, sv], .agg (cmL C.kind C.name C.other C.off C.count drive keep R C.dn dc)] w (MdP (doT s C).1 (doT s C).2 w) := by
  have some_of : ∀ {α : Type} {l : List (Nm × α)} {x : Nm}, get l x ≠ none → (get l x).isSome = true := fun {α} {l} {x} h => by
    cases e : get l x with
    | none => exact absurd e h
    | some _ => rfl
  by_cases h12 : C.kind = 12
  · exact does_sync tv sv s C drive keep R dc w ht hs hP hC h12
  by_cases ho : C.kind < 1 ∨ 12 < C.kind
  · exact does_else tv sv s C drive keep R dc w ht hs hP hC C.kind rfl ho
  by_cases h1 : C.kind = 1
  · by_cases a : goodN C.name = false
    · exact create_form tv sv s C drive keep R dc w ht hs hP hC h1 a
    have a : goodN C.name = true := by simpa using a
    by_cases b : get s.ths C.name = none
    · by_cases c : s.ths.length = 4
      · exact create_full tv sv s C drive keep R dc w ht hs hP hC h1 a b c
      · exact create_ok tv sv s C drive keep R dc w ht hs hP hC h1 a b c
    · exact create_twice tv sv s C drive keep R dc w ht hs hP hC h1 a (some_of b)
  by_cases h6 : C.kind = 6
  · exact list_ok tv sv s C drive keep R dc w ht hs hP hC h6
  by_cases h11 : C.kind = 11
  · exact snaps_ok tv sv s C drive keep R dc w ht hs hP hC h11
  by_cases h7 : C.kind = 7
  · by_cases a : goodN C.other = false
    · exact snap_form tv sv s C drive keep R dc w ht hs hP hC h7 a
    have a : goodN C.other = true := by simpa using a
    by_cases b : get s.shs C.other = none
    · by_cases c : s.shs.length = 3
      · exact snap_full tv sv s C drive keep R dc w ht hs hP hC h7 a b c
      · exact snap_ok tv sv s C drive keep R dc w ht hs hP hC h7 a b c
    · exact snap_twice tv sv s C drive keep R dc w ht hs hP hC h7 a (some_of b)
  by_cases h8 : C.kind = 8
  · by_cases b : get s.shs C.other = none
    · exact shot_none8 tv sv s C drive keep R dc w ht hs hP hC h8 b
    obtain ⟨l, hl⟩ := Option.isSome_iff_exists.1 (some_of b)
    by_cases c : get l C.name = none
    · exact look_none tv sv s C drive keep R dc w ht hs hP hC l h8 hl c
    obtain ⟨x, hx⟩ := Option.isSome_iff_exists.1 (some_of c)
    exact look_ok tv sv s C drive keep R dc w ht hs hP hC l h8 hl x hx
  by_cases h9 : C.kind = 9
  · by_cases b : get s.shs C.other = none
    · exact shot_none9 tv sv s C drive keep R dc w ht hs hP hC h9 b
    · exact back_ok tv sv s C drive keep R dc w ht hs hP hC h9 (some_of b)
  by_cases h10 : C.kind = 10
  · by_cases b : get s.shs C.other = none
    · exact shot_none10 tv sv s C drive keep R dc w ht hs hP hC h10 b
    · exact unsnap_ok tv sv s C drive keep R dc w ht hs hP hC h10 (some_of b)
  by_cases h2 : C.kind = 2
  · by_cases b : get s.ths C.name = none
    · exact thing_none2 tv sv s C drive keep R dc w ht hs hP hC h2 b
    · exact thing_some2 tv sv s C drive keep R dc w ht hs hP hC h2 (some_of b)
  by_cases h3 : C.kind = 3
  · by_cases b : get s.ths C.name = none
    · exact thing_none3 tv sv s C drive keep R dc w ht hs hP hC h3 b
    · exact thing_some3 tv sv s C drive keep R dc w ht hs hP hC h3 (some_of b)
  by_cases h4 : C.kind = 4
  · by_cases b : get s.ths C.name = none
    · exact thing_none4 tv sv s C drive keep R dc w ht hs hP hC h4 b
    · exact thing_some4 tv sv s C drive keep R dc w ht hs hP hC h4 (some_of b)
  have h5 : C.kind = 5 := by omega
  by_cases b : get s.ths C.name = none
  · exact thing_none5 tv sv s C drive keep R dc w ht hs hP hC h5 b
  · exact thing_some5 tv sv s C drive keep R dc w ht hs hP hC h5 (some_of b)
end Go.Proofs.Ytmpaheaedaeakaa.pool

/-
  A row of answers of one's own that holds no text: one more.
-/
namespace Go.Proofs.Ytmpaheaedaeakaa.pool
open Go.ChangeShapes Go.WideShapes Go.ChangeAt Go.RowKit Go.Proofs.Ytmpaheaedaeakaa.kit Go.Deep Go.Maps
set_option linter.unusedVariables false
set_option maxRecDepth 100000
/-- no cell of the row's block is a text -/
def NoS (w : World) (v : Value) : Prop := ∀ g o x, v.ownBlock = some g → w.cell? ⟨g, o, none⟩ ≠ some (encStr x)
theorem NoS.nil (w : World) : NoS w (.slice none 0 0) := fun g o x h => by cases h
theorem NoS.new {w w' : World} {b e z n : Nat} {v : Value} {xs : List Value} (h : NoS w v) (ho : w.ownsRow b e z v n xs) (hn : New w w') : NoS w' v := fun g o x hg => by
  rw [hn.cell (p := ⟨g, o, none⟩) (ho.lt g hg).2]
  exact h g o x hg
theorem zero_tell (n : Nat) (u : Value) (h : u ∈ (Builtin.zeroCells (Value.agg #[.int .i64 0, .bool false, .int .i64 0, .slice none 0 0, .slice none 0 0]).cells n).toList) (x : Nm) : u ≠ encStr x := by
  have hc : (Value.agg #[.int .i64 0, .bool false, .int .i64 0, .slice none 0 0, .slice none 0 0]).cells = #[.int .i64 0, .bool false, .int .i64 0, .slice none 0 0, .slice none 0 0] := by simp [Value.cells]
  rw [hc] at h
  unfold Builtin.zeroCells at h
  simp only [Array.toList_map, List.mem_map] at h
  obtain ⟨i, _, rfl⟩ := h
  have hi : i % 5 < 5 := Nat.mod_lt _ (by decide)
  show (#[Value.int .i64 0, .bool false, .int .i64 0, .slice none 0 0, .slice none 0 0] : Array Value)[i % 5]! ≠ encStr x
  generalize i % 5 = k at hi
  match k, hi with
  | 0, _ | 1, _ | 2, _ | 3, _ | 4, _ => simp [encStr]
theorem tell_push {base n m c : Nat} {w : World} {v : Value} {xs news : List Value} {a : Addr} (ty : TypeId) (hown : w.ownsRow base 37 5 v n xs) (hns : NoS w v) (hl : news.length = m * 5) (hm : 0 < m) (hnews : ∀ j u, news[j]? = some u → w.cell? (a.add j) = some u) (h1 : ∀ u ∈ news, u.oneCell' = true) (hq : ∀ u ∈ news, ∀ x, u ≠ encStr x)
    (h63 : n + m ≤ 1000) (hbase : base ≤ w.heap.size) :
    ∃ A' c' w', (Builtin.append_ #[23, 23] ty #[v, .slice (some a) m c]).run Try.prog w = .ok (.slice A' (n + m) c') w' ∧ w'.ownsRow base 37 5 (.slice A' (n + m) c') (n + m) (xs ++ news) ∧ w.grownBy w' v.ownBlock ∧ NoS w' (.slice A' (n + m) c') := by
  obtain ⟨i, hi, hz, hsz, hby⟩ := info_parts infoTold
  have hund := Try.underlying23
  obtain ⟨v', w', hr, ho, hg, _⟩ := run_append_own (P := Try.prog) w base 23 ty 37 i _ 5 72 hund hi hz hsz hby rfl (by decide) v n xs hown a m c news hl hnews h1 (by unfold maxLen; omega) (by omega) hbase
  obtain ⟨A', c', rfl, _⟩ := own_open ho
  refine ⟨A', c', w', hr, ho, hg, ?_⟩
  rw [← hsz] at hl
  rcases hown.2 with ⟨rfl, rfl⟩ | ⟨g, cap, cur, rfl, hbg, hgg, hnc, hcm, hcs, htake⟩
  · have hr2 := run_append_nil (P := Try.prog) w 23 ty 37 i _ hund hi hz a m c news hl hnews hm (by omega) (by rw [hby]; omega)
    rw [hr2] at hr
    injection hr with e1 e2
    intro g o x hgx
    rw [← e1] at hgx
    obtain rfl : w.heap.size = g := by simpa [Value.ownBlock] using hgx
    rw [← e2]
    show (w.drew.alloc (.cells _ 37)).cell? ⟨w.drew.heap.size, o, none⟩ ≠ _
    rw [cell_of_row _ _ o _ _ (0, 0) (heap_alloc_new w.drew _)]
    intro hu
    rcases Array.mem_append.1 (Array.mem_of_getElem? hu) with h | h
    · exact hq _ (by simpa using h) x rfl
    · exact zero_tell _ _ (by simpa using h) x rfl
  · by_cases hroom : n + m ≤ cap
    · have hfit : n * i.size + news.length ≤ cur.size := by rw [hl, hcs, hsz, ← Nat.add_mul]; exact Nat.mul_le_mul_right _ hroom
      have hr2 := run_append_room (P := Try.prog) w 23 ty 37 i hund hi g n cap cur hgg a m c news hl hnews h1 hroom hfit
      rw [hr2] at hr
      injection hr with e1 e2
      intro g' o x hgx
      rw [← e1] at hgx
      obtain rfl : g = g' := by simpa [Value.ownBlock] using hgx
      rw [← e2, cell_of_row _ _ o _ _ (0, 0) (setRow_heap w g cur _ _ _ hgg)]
      intro hu
      have hcur : encStr x ∈ cur.toList → False := fun h => by
        obtain ⟨j, hj⟩ := List.mem_iff_getElem?.1 h
        refine hns g j x rfl ?_
        rw [cell_of_row _ _ j _ _ (0, 0) hgg]
        simpa using hj
      have hu := List.mem_of_getElem? (by simpa using hu : _ = some (encStr x))
      rcases List.mem_append.1 hu with h | h
      · exact hcur (List.mem_of_mem_take h)
      · rcases List.mem_append.1 h with h | h
        · exact hq _ h x rfl
        · exact hcur (List.mem_of_mem_drop h)
    · have holds : ∀ j u, xs[j]? = some u → w.cell? ((⟨g, 0, none⟩ : Addr).add j) = some u := hown.cells (g := g) rfl
      have hr2 := run_append_grow (P := Try.prog) w 23 ty 37 i _ hund hi hz ⟨g, 0, none⟩ n cap xs (by rw [hown.1, hsz]) holds a m c news hl hnews (by omega) (by omega) (growslice_fits (by omega) (by rw [hby]; omega))
      rw [hr2] at hr
      injection hr with e1 e2
      intro g' o x hgx
      rw [← e1] at hgx
      obtain rfl : w.heap.size = g' := by simpa [Value.ownBlock] using hgx
      rw [← e2]
      show (w.drew.alloc (.cells _ 37)).cell? ⟨w.drew.heap.size, o, none⟩ ≠ _
      rw [cell_of_row _ _ o _ _ (0, 0) (heap_alloc_new w.drew _)]
      intro hu
      rcases Array.mem_append.1 (Array.mem_of_getElem? hu) with h | h
      · rcases Array.mem_append.1 h with h | h
        · have h : encStr x ∈ xs := by simpa using h
          obtain ⟨j, hj⟩ := List.mem_iff_getElem?.1 h
          have := holds j _ hj
          rw [add_cell] at this
          exact hns g _ x rfl this
        · exact hq _ (by simpa using h) x rfl
      · exact zero_tell _ _ (by simpa using h) x rfl
end Go.Proofs.Ytmpaheaedaeakaa.pool

/-
  The reference's PoolPlayed.
-/
namespace Go.Proofs.Ytmpaheaedaeakaa.pool
open Go.ChangeShapes Go.WideShapes Go.ChangeAt Go.RowKit Go.Proofs.Ytmpaheaedaeakaa.kit Go.Deep Go.Maps
set_option linter.unusedVariables false
set_option maxRecDepth 100000
theorem Played_long (A : Option Addr) (m c : Nat) (T : Nat → Td) (w : World) (hm : 300 < m) (hmx : m ≤ maxLen) : Calls Try.prog 5 #[.slice A m c] w (PlO T 0 1 w) := by
  unfold maxLen at hmx
  have hm3 : (300 : Int) < (m : Int) := by omega
  go_enter Try.func5, Try.ntmps5
  go_wp2
  exact bodyPost_ret (v := .tuple #[.slice none 0 0, .int .i64 1]) (by simp [results, Try.results5, go_sem]) rfl (PlO.no rfl (New.refl _))
set_option maxHeartbeats 2000000 in
theorem Played_ok (m c : Nat) (A : Option Addr) (Cs : Nat → Cm) (dr kp : Nat → Int) (R : Nat → Option Addr) (dc : Nat → Nat) (w : World) (hm : m ≤ 300) (hJ : RdC w A m Cs dr kp R dc) :
    Calls Try.prog 5 #[.slice A m c] w (PlO (tellP Cs) m 0 w) := by
  obtain ⟨i0, hi0, hz0, hz1, hz2⟩ := info_parts infoTold
  have hJH := Lib.hid hJ
  have g3 : ¬ (300 : Int) < (m : Int) := by omega
  obtain ⟨S, hS⟩ : ∃ S, Hid (S = runP Cs) := ⟨_, rfl⟩
  obtain ⟨T, hT⟩ : ∃ T, Hid (T = tellP Cs) := ⟨_, rfl⟩
  rw [← hT.out]
  have hin : Hid (∀ i, OkP (S i)) := fun i => by rw [hS.out]; exact run_ok Cs i
  have hst : Hid (∀ i, (doT (S i) (Cs i)).1 = T i ∧ (doT (S i) (Cs i)).2 = S (i + 1)) := fun i => by rw [hS.out, hT.out]; exact ⟨rfl, rfl⟩
  have hS0 : Hid (S 0 = ⟨[], []⟩) := by show _ = _; rw [hS.out]; rfl
  obtain ⟨W1, hW1⟩ : ∃ W1, W1 = w.alloc (.cells #[.slice none 0 0, .slice none 0 0] 42) := ⟨_, rfl⟩
  have hn1 : Hid (New w W1) := by show New _ _; rw [hW1]; exact (New.refl w).alloc _
  have hb1 : Hid (Blk W1 w.heap.size 42 #[.slice none 0 0, .slice none 0 0]) := by show Blk _ _ _ _; rw [hW1]; exact Blk.fresh _ _ _
  clear hJ
  go_enter Try.func5, Try.ntmps5
  go_upto_region 4 with fail
  rw [← hW1]
  clear hW1
  go_wp2_with fail
  go_loopw [15, 5] (fun x ov wr => ∃ (i : Nat) (tv sv : Value) (dv nv : Nat → Value), x = .int .i64 i ∧ i ≤ m ∧ Hid (Blk wr w.heap.size 42 #[tv, sv]) ∧ Hid (TL wr tv (S i).ths) ∧ Hid (SL wr sv (S i).shs) ∧ Hid (wr.ownsRow w.heap.size 37 5 ov i (tdL T dv nv i)) ∧ Hid (NoS wr ov) ∧ Hid (∀ j, j < i → Bs wr (dv j) (T j).dat ∧ Ns wr (nv j) (T j).names) ∧ Hid (New w wr)) (fun x _ _ => m - (intOf x).toNat)
  case atStart => exact ⟨0, _, _, fun _ => .slice none 0 0, fun _ => .slice none 0 0, rfl, by omega, hb1, by rw [hS0.out]; exact LL.nil _ _, by rw [hS0.out]; exact LL.nil _ _, World.ownsRow_nil _ _ _ _, NoS.nil _, fun j hj => absurd hj (Nat.not_lt_zero j), hn1⟩
  case round =>
    obtain ⟨i, tv, sv, dv, nv, rfl, hi, hB, hTL, hSL, hO, hQ, hR, hN⟩ := hrel
    by_cases hlt : i < m
    · obtain ⟨b, off, rfl, hb, hc⟩ := hJH.out.2.1 (by omega)
      obtain ⟨e0, e1, e2, e3, e4, e5, e6, e7⟩ := hc i hlt
      replace e0 := (hN.out.cell hb).trans e0
      replace e1 := (hN.out.cell hb).trans e1
      replace e2 := (hN.out.cell hb).trans e2
      replace e3 := (hN.out.cell hb).trans e3
      replace e4 := (hN.out.cell hb).trans e4
      replace e5 := (hN.out.cell hb).trans e5
      replace e6 := (hN.out.cell hb).trans e6
      replace e7 := (hN.out.cell hb).trans e7
      have hil : (i : Int) < (m : Int) := by omega
      have hnz := hN.out.size
      have hdo := Lib.hid (fun (w' : World) (hn : New wr w') => Does_any' tv sv (S i) (Cs i) (dr i) (kp i) (R i) (dc i) w' (TL.new hTL.out hn) (SL.new hSL.out hn) (hin.out i) ((hJH.out.2.2 i hlt).new (hN.out.next hn)))
      rw [(hst.out i).1, (hst.out i).2] at hdo
      obtain ⟨A1, c1, ht1⟩ := LL.form hTL.out
      obtain ⟨A2, c2, hs1⟩ := LL.form hSL.out
      obtain ⟨n1, hn1⟩ : ∃ n, Hid (n = (S i).ths.length) := ⟨_, rfl⟩
      obtain ⟨n2, hn2⟩ : ∃ n, Hid (n = (S i).shs.length) := ⟨_, rfl⟩
      rw [← hn1.out] at ht1
      rw [← hn2.out] at hs1
      rw [ht1, hs1] at hdo hB
      clear ht1 hs1 hTL hSL
      obtain ⟨C, hC⟩ : ∃ C, Hid (C = Cs i) := ⟨_, rfl⟩
      rw [← hC.out] at e0 e1 e2 e3 e4 e7 hdo
      obtain ⟨k, hk⟩ : ∃ k, Hid (k = C.kind) := ⟨_, rfl⟩
      obtain ⟨x1, hx1⟩ : ∃ x, Hid (x = C.name) := ⟨_, rfl⟩
      obtain ⟨x2, hx2⟩ : ∃ x, Hid (x = C.other) := ⟨_, rfl⟩
      obtain ⟨x3, hx3⟩ : ∃ x, Hid (x = C.off) := ⟨_, rfl⟩
      obtain ⟨x4, hx4⟩ : ∃ x, Hid (x = C.count) := ⟨_, rfl⟩
      obtain ⟨x5, hx5⟩ : ∃ x, Hid (x = dr i) := ⟨_, rfl⟩
      obtain ⟨x6, hx6⟩ : ∃ x, Hid (x = kp i) := ⟨_, rfl⟩
      obtain ⟨xr, hxr⟩ : ∃ x, Hid (x = R i) := ⟨_, rfl⟩
      obtain ⟨xn, hxn⟩ : ∃ x, Hid (x = C.dn) := ⟨_, rfl⟩
      obtain ⟨xc, hxc⟩ : ∃ x, Hid (x = dc i) := ⟨_, rfl⟩
      rw [← hk.out, ← hx1.out, ← hx2.out, ← hx3.out, ← hx4.out, ← hx5.out, ← hx6.out, ← hxr.out, ← hxn.out, ← hxc.out] at hdo
      rw [← hk.out] at e0
      rw [← hx1.out] at e1
      rw [← hx2.out] at e2
      rw [← hx3.out] at e3
      rw [← hx4.out] at e4
      rw [← hx5.out] at e5
      rw [← hx6.out] at e6
      rw [← hxr.out, ← hxn.out, ← hxc.out] at e7
      clear hc
      go_upto_region 8 with fail
      obtain ⟨W2, hW2⟩ : ∃ W2, W2 = wr.alloc (.cells #[.int .i64 k, encStr x1, encStr x2, .int .i64 x3, .int .i64 x4, .int .i64 x5, .int .i64 x6, .slice xr xn xc] 34) := ⟨_, rfl⟩
      have hn2' : New wr W2 := by rw [hW2]; exact (New.refl wr).alloc _
      have hb2 : Blk W2 wr.heap.size 34 #[.int .i64 k, encStr x1, encStr x2, .int .i64 x3, .int .i64 x4, .int .i64 x5, .int .i64 x6, .slice xr xn xc] := by rw [hW2]; exact Blk.fresh _ _ _
      have q0 := hb2.cell 0
      have q1 := hb2.cell 1
      have q2 := hb2.cell 2
      have q3 := hb2.cell 3
      have q4 := hb2.cell 4
      have q5 := hb2.cell 5
      have q6 := hb2.cell 6
      have q7 := hb2.cell 7
      simp at q0 q1 q2 q3 q4 q5 q6 q7
      have hB2 := hB.out.new hn2'
      have k0 := hB2.cell 0
      have k1 := hB2.cell 1
      simp at k0 k1
      have hn2H := Lib.hid hn2'
      rw [← hW2]
      clear hW2 hn2' hb2 hB2
      have hdo2 := Lib.hid (hdo.out W2 hn2H.out)
      have hN2 := Lib.hid (hN.out.next hn2H.out)
      have hBW := Lib.hid (hB.out.new hn2H.out)
      have hO2 := Lib.hid (own_new hO.out hn2H.out)
      have hQ2 := Lib.hid (hQ.out.new hO.out hn2H.out)
      have hR2 : Hid (∀ j, j < i → Bs W2 (dv j) (T j).dat ∧ Ns W2 (nv j) (T j).names) := fun j hj => ⟨(hR.out j hj).1.new hn2H.out, (hR.out j hj).2.new hn2H.out⟩
      clear hdo hB hO hQ hR hN hn2H e0 e1 e2 e3 e4 e5 e6 e7
      go_upto_region 9 with (first
        | (go_at_call 9; refine hdo2.out.mono ?_; rintro e w4 ⟨a4, tv4, sv4, rfl, hu, hu1, hu2, hn4⟩
           obtain ⟨D1, l1, d1, D2, l2, d2, rfl⟩ := hu.full
           obtain ⟨A3, c3, ht3⟩ := LL.form hu1
           obtain ⟨A4, c4, hs3⟩ := LL.form hu2
           obtain ⟨n3, hn3⟩ : ∃ n, Hid (n = (S (i + 1)).ths.length) := ⟨_, rfl⟩
           obtain ⟨n4, hn5⟩ : ∃ n, Hid (n = (S (i + 1)).shs.length) := ⟨_, rfl⟩
           rw [← hn3.out] at ht3
           rw [← hn5.out] at hs3
           subst ht3
           subst hs3
           have hu := Lib.hid hu
           have hu1 := Lib.hid hu1
           have hu2 := Lib.hid hu2
           have hn4 := Lib.hid hn4))
      obtain ⟨cd, hcd⟩ : ∃ cd, Hid (cd = (T i).code) := ⟨_, rfl⟩
      obtain ⟨sz, hsz⟩ : ∃ sz, Hid (sz = (T i).size) := ⟨_, rfl⟩
      rw [← hcd.out, ← hsz.out]
      obtain ⟨W5, hW5⟩ : ∃ W5, W5 = (w4.alloc (.cells #[.int .i64 cd, .bool false, .int .i64 (sz : Nat), .slice D1 l1 d1, .slice D2 l2 d2] 37)).alloc (.cells #[.slice A3 n3 c3, .slice A4 n4 c4] 42) := ⟨_, rfl⟩
      have hN5 : Hid (New w4 W5) := by show New _ _; rw [hW5]; exact ((New.refl w4).alloc _).alloc _
      have hp5 : Hid (Blk W5 w4.heap.size 37 #[.int .i64 cd, .bool false, .int .i64 (sz : Nat), .slice D1 l1 d1, .slice D2 l2 d2]) := by
        show Blk _ _ _ _
        rw [hW5]
        exact (Blk.fresh w4 _ _).alloc _
      have hq5 : Hid (Blk W5 (w4.heap.size + 1) 42 #[.slice A3 n3 c3, .slice A4 n4 c4]) := by
        show Blk _ _ _ _
        rw [hW5]
        have h := Blk.fresh (w4.alloc (.cells #[.int .i64 cd, .bool false, .int .i64 (sz : Nat), .slice D1 l1 d1, .slice D2 l2 d2] 37)) 42 #[.slice A3 n3 c3, .slice A4 n4 c4]
        simpa using h
      rw [← hW5]
      clear hW5 q0 q1 q2 q3 q4 q5 q6 q7 k0 k1
      have hn45 := Lib.hid (hn4.out.next hN5.out)
      have hO5 := Lib.hid (own_new hO2.out hn45.out)
      have hQ5 := Lib.hid (hQ2.out.new hO2.out hn45.out)
      have hB5 := Lib.hid (hBW.out.new hn45.out)
      have hR5 : Hid (∀ j, j < i → Bs W5 (dv j) (T j).dat ∧ Ns W5 (nv j) (T j).names) := fun j hj => ⟨(hR2.out j hj).1.new hn45.out, (hR2.out j hj).2.new hn45.out⟩
      have hN0 := Lib.hid (hN2.out.next hn45.out)
      have hTL5 := Lib.hid (TL.new hu1.out hN5.out)
      have hSL5 := Lib.hid (SL.new hu2.out hN5.out)
      have hBs5 : Hid (Bs W5 (.slice D1 l1 d1) (T i).dat ∧ Ns W5 (.slice D2 l2 d2) (T i).names) := by
        obtain ⟨du, nu, he, hdu, hnu⟩ := hu.out
        injection he with he
        injection he with he
        simp only [List.cons.injEq, and_true, true_and] at he
        obtain ⟨rfl, rfl⟩ := he
        exact ⟨hdu.new hN5.out, hnu.new hN5.out⟩
      obtain ⟨⟨p0, p1, p2, p3, p4⟩, _, _⟩ := told_cells hp5.out
      obtain ⟨W6, hW6⟩ : ∃ W6, Hid (W6 = W5.alloc (.cells #[.int .i64 cd, .bool false, .int .i64 (sz : Nat), .slice D1 l1 d1, .slice D2 l2 d2] 37)) := ⟨_, rfl⟩
      have hN6 : Hid (New W5 W6) := by show New _ _; rw [hW6.out]; exact (New.refl W5).alloc _
      have hO6 := Lib.hid (own_new hO5.out hN6.out)
      have hnz := hN0.out.size
      have hnz6 := hN6.out.size
      obtain ⟨VA, vc, w7, hrun, hO7, hg7, hQ7⟩ := tell_push (a := ⟨W5.heap.size, 0, none⟩) (m := 1) (c := 1) (news := [.int .i64 cd, .bool false, .int .i64 (sz : Nat), .slice D1 l1 d1, .slice D2 l2 d2]) 23 hO6.out (hQ5.out.new hO5.out hN6.out) rfl (by omega) (by rw [hW6.out]; exact World.news_of_block (cs := #[.int .i64 _, .bool _, .int .i64 _, .slice _ _ _, .slice _ _ _]) (t := 37) (fr := (0, 0)) (heap_alloc_new W5 _)) (by simp [Value.oneCell']) (by simp [encStr]) (by omega) (by omega)
      rw [hW6.out] at hrun
      have hne : Hid (∀ g cs t, Blk W6 g t cs → t ≠ 37 → ¬ (u5.ownBlock = some g)) := fun g cs t hb ht => own_ne_blk hO6.out hb (Ne.symm ht)
      have hal : Hid (Alt (fun g => u5.ownBlock = some g) W6 w7) := Alt.grown (Alt.refl _) hg7 fun r e => .inl e
      have hQ6 := Lib.hid (hQ5.out.new hO5.out hN6.out)
      have hbs7 : Hid (∀ v b, Bs W6 v b → Bs w7 v b) := fun v b h => h.alt hal.out fun g cs hb => hne.out g cs _ hb (by decide)
      have hns7 : Hid (∀ v b, Ns W6 v b → Ns w7 v b) := fun v b h => h.alt hal.out fun g cs hb => hne.out g cs _ hb (by decide)
      have htl7 : Hid (∀ v l, TL W6 v l → TL w7 v l) := fun v l h => LL.alt h hal.out (fun g o x hk => hQ6.out g o x hk) hbs7.out
      have hB7 := Lib.hid (hal.out.blk (hB5.out.new hN6.out) (hne.out _ _ _ (hB5.out.new hN6.out) (by decide)))
      have hq7 := Lib.hid (hal.out.blk (hq5.out.new hN6.out) (hne.out _ _ _ (hq5.out.new hN6.out) (by decide)))
      have hTL7 := Lib.hid (htl7.out _ _ (TL.new hTL5.out hN6.out))
      have hSL7 : Hid (SL w7 (.slice A4 n4 c4) (S (i + 1)).shs) := LL.alt (SL.new hSL5.out hN6.out) hal.out (fun g o x hk => hQ6.out g o x hk) htl7.out
      have hR7 : Hid (∀ j, j < i + 1 → Bs w7 (if j = i then .slice D1 l1 d1 else dv j) (T j).dat ∧ Ns w7 (if j = i then .slice D2 l2 d2 else nv j) (T j).names) := fun j hj => by
        by_cases e : j = i
        · subst e
          rw [if_pos rfl, if_pos rfl]
          exact ⟨hbs7.out _ _ (hBs5.out.1.new hN6.out), hns7.out _ _ (hBs5.out.2.new hN6.out)⟩
        · rw [if_neg e, if_neg e]
          exact ⟨hbs7.out _ _ ((hR5.out j (by omega)).1.new hN6.out), hns7.out _ _ ((hR5.out j (by omega)).2.new hN6.out)⟩
      have hN7 : Hid (New w w7) := (hN0.out.next hN6.out).grown hg7 fun r e => (hO6.out.lt r e).1
      have hnx := Lib.hid (tdL_more T dv nv i (.slice D1 l1 d1) (.slice D2 l2 d2))
      rw [← hcd.out, ← hsz.out] at hnx
      rw [← hnx.out] at hO7
      obtain ⟨W8, hW8⟩ : ∃ W8, W8 = (w7.setCell ⟨w.heap.size, 0, none⟩ (.slice A3 n3 c3)).setCell ⟨w.heap.size, 1, none⟩ (.slice A4 n4 c4) := ⟨_, rfl⟩
      have ha8 : Hid (Alt (fun g => g = w.heap.size) w7 W8) := by
        show Alt _ _ _
        rw [hW8]
        exact Alt.set (K := fun g => g = w.heap.size) (Alt.set (K := fun g => g = w.heap.size) (Alt.refl w7) (.inl rfl) _) (.inl rfl) _
      have hns8 : Hid (∀ g o x, g = w.heap.size → w7.cell? ⟨g, o, none⟩ ≠ some (encStr x)) := fun g o x e => by
        subst e
        rw [hB7.out.cell]
        match o with
        | 0 | 1 => simp [encStr]
        | o + 2 => simp
      have hbs8 : Hid (∀ v b, Bs w7 v b → Bs W8 v b) := fun v b h => h.alt ha8.out fun g cs hb e => by
        subst e
        exact blk_ne' hb hB7.out (by decide) rfl
      have hns9 : Hid (∀ v b, Ns w7 v b → Ns W8 v b) := fun v b h => h.alt ha8.out fun g cs hb e => by
        subst e
        exact blk_ne' hb hB7.out (by decide) rfl
      have htl8 : Hid (∀ v l, TL w7 v l → TL W8 v l) := fun v l h => LL.alt h ha8.out hns8.out hbs8.out
      have hown8 : Hid (∀ g, (Value.slice VA (i + 1) vc).ownBlock = some g → ¬ g = w.heap.size) := fun g hg e => by
        subst e
        exact own_ne_blk hO7 hB7.out (by decide) hg
      have hfin : Hid (Blk W8 w.heap.size 42 #[.slice A3 n3 c3, .slice A4 n4 c4] ∧ TL W8 (.slice A3 n3 c3) (S (i + 1)).ths ∧ SL W8 (.slice A4 n4 c4) (S (i + 1)).shs ∧ W8.ownsRow w.heap.size 37 5 (.slice VA (i + 1) vc) (i + 1) (tdL T (fun j => if j = i then .slice D1 l1 d1 else dv j) (fun j => if j = i then .slice D2 l2 d2 else nv j) (i + 1)) ∧ NoS W8 (.slice VA (i + 1) vc) ∧
          (∀ j, j < i + 1 → Bs W8 (if j = i then .slice D1 l1 d1 else dv j) (T j).dat ∧ Ns W8 (if j = i then .slice D2 l2 d2 else nv j) (T j).names) ∧ New w W8) := by
        refine ⟨by rw [hW8]; simpa using (hB7.out.put 0 (.slice A3 n3 c3)).put 1 (.slice A4 n4 c4), htl8.out _ _ hTL7.out, LL.alt hSL7.out ha8.out hns8.out htl8.out, Alt.own ha8.out hO7 hown8.out, fun g o x hg => ?_, fun j hj => ⟨hbs8.out _ _ (hR7.out j hj).1, hns9.out _ _ (hR7.out j hj).2⟩, hN7.out.trans (ha8.out.below (by have := hN7.out.size; omega) fun g hg => by omega)⟩
        have hne8 := hown8.out g hg
        rw [hW8]
        have h := hQ7 g o x hg
        rw [World.cell?_setCell_far _ _ _ _ fun e => hne8 e.symm, World.cell?_setCell_far _ _ _ _ fun e => hne8 e.symm]
        exact h
      have x0 := hq7.out.cell 0
      have x1 := hq7.out.cell 1
      have f0 := hB7.out.frozen 0
      have f1 := hB7.out.frozen 1
      have y0 := hB7.out.cell 0
      have y1 := hB7.out.cell 1
      simp at x0 x1 y0 y1
      clear hO7 hg7 hQ7
      go_wp2_with (at_builtin; refine wpList_append_run rfl _ _ 23 rfl _ _ rfl rfl hrun ?_; clear hrun)
      go_roundw
      rw [← hW8]
      case rel => exact ⟨i + 1, _, _, _, _, by go_num, by omega, hfin.out.1, hfin.out.2.1, hfin.out.2.2.1, hfin.out.2.2.2.1, hfin.out.2.2.2.2.1, hfin.out.2.2.2.2.2.1, hfin.out.2.2.2.2.2.2⟩
      case measure => simp [intOf]; omega
    · have him : m = i := by omega
      subst him
      have hf := Lib.hid (And.intro hO.out (And.intro hR.out hN.out))
      clear hO hQ hR hN
      go_wp2
      exact bodyPost_ret (v := .tuple #[u5, .int .i64 0]) (by simp [results, Try.results5, go_sem]) rfl ⟨⟨u5, dv, nv, rfl, hf.out.1, hf.out.2.1⟩, hf.out.2.2⟩
end Go.Proofs.Ytmpaheaedaeakaa.pool
