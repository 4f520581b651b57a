/-
  Contract of the program's Tell.
-/
import Derived.Test.YtaommipcdcncnaaDoorDeskOdd
import Derived.Test.YtaommipcdcncnaaDoorAlt
import Derived.Deep.RegionHeldLaw
import Derived.Laws.OwnMore
import Derived.Lib.ItoaMem
import Derived.Lib.AppendIntMem
namespace Go.Proofs.YtaommipcdcncnaaDoor.desk
open Go.ChangeShapes Go.WideShapes Go.ChangeAt Go.RowKit Go.Proofs.YtaommipcdcncnaaDoor.kit Go.Deep
set_option linter.unusedVariables false
set_option maxRecDepth 100000
theorem infoStr : (Tryd.prog.info? 9).map (fun i => (i.zero, i.size, i.bytes)) = some (some (encStr []), 1, 16) := by kernel_rfl
/-- an answer, read -/
structure ToldOk (w : World) (code size : Int) (A : Option Addr) (n : Nat) (f : Nat → Nat) (B : Option Addr) (e : Nat) (l : List Nm) : Prop where
  c0 : -9223372036854775808 ≤ code
  c1 : code ≤ 9223372036854775807
  s0 : -9223372036854775808 ≤ size
  s1 : size ≤ 9223372036854775807
  dat : RdI .u8 w A n (fun i => (f i : Nat))
  lt : ∀ i, f i < 256
  n1 : n ≤ 1048576
  nam : RdS w B l
  le : l.length ≤ e
  e1 : e ≤ 9223372036854775807
  nil : B = none → e = 0
  sum : (tailT l).length ≤ 16777216
  tab : Lib.TabIs Tryd.prog w "internal/strconv.uint64pow10" .u64 Lib.pow10Tab
def badT (code size : Int) (l : List Nm) : Bool := decide (code < 0) || (decide (size < 0) || l.any oddN)
/-- what is answered -/
def TlP (code size : Int) (dn : Bool) (f : Nat → Nat) (n : Nat) (l : List Nm) (w : World) (e : Ending) (w' : World) : Prop :=
  e = .returned (.tuple #[encStr (if badT code size l = true then [] else lineT code size dn f n l), .int .i64 (if badT code size l = true then 4 else 0)]) ∧ New w w'
theorem TlP.bad {code size : Int} {dn : Bool} {f : Nat → Nat} {n : Nat} {l : List Nm} {w w' : World} (hb : badT code size l = true) (hn : New w w') : TlP code size dn f n l w (.returned (.tuple #[encStr [], .int .i64 4])) w' := by
  unfold TlP
  rw [if_pos hb, if_pos hb]
  exact ⟨rfl, hn⟩
theorem TlP.good {code size : Int} {dn : Bool} {f : Nat → Nat} {n : Nat} {l : List Nm} {w w' : World} {x : Tx} (hb : badT code size l = false) (hx : x = lineT code size dn f n l) (hn : New w w') : TlP code size dn f n l w (.returned (.tuple #[encStr x, .int .i64 0])) w' := by
  unfold TlP
  rw [if_neg (by rw [hb]; decide), if_neg (by rw [hb]; decide), hx]
  exact ⟨rfl, hn⟩
theorem tab_new {w w' : World} (h : Lib.TabIs Tryd.prog w "internal/strconv.uint64pow10" .u64 Lib.pow10Tab) (hn : New w w') : Lib.TabIs Tryd.prog w' "internal/strconv.uint64pow10" .u64 Lib.pow10Tab := Lib.tabBelow_of_tabIs h w' hn
theorem itoa_new (n : Int) (h0 : -9223372036854775808 ≤ n) (h1 : n ≤ 9223372036854775807) (w : World) (h : Lib.TabIs Tryd.prog w "internal/strconv.uint64pow10" .u64 Lib.pow10Tab) :
    Calls Tryd.prog 20 #[.int .i64 n] w fun e w' => e = .returned (encStr (Lib.itoa n)) ∧ New w w' := by
  refine (sh_strconv_Itoa n h0 h1 w h).mono ?_
  rintro e w' ⟨he, k, os, rfl⟩
  refine ⟨he, rfl, rfl, rfl, ?_, fun b hb => ?_⟩
  · show w.heap.size ≤ (w.heap ++ os).size
    rw [Array.size_append]
    exact Nat.le_add_right _ _
  · show (w.heap ++ os)[b]? = _
    rw [Array.getElem?_append_left hb]
theorem step_append_full {ops : Array Oper} {o : Oper} {a : Act} {K : Act → World → Prop} {Q : Exit → Act → World → Prop} {E : Prop} {W : World} (hgd : o.guard = none) (s x : Operand)
    (ho : o.op = .call { callee := .builtin .append, args := #[s, x], argTypes := #[24, 24] }) (base g n m c : Nat) (xs news : List Value) (hs : a.eval s = .slice (some ⟨g, 0, none⟩) n n) (ad : Addr) (hx : a.eval x = .slice (some ad) m c)
    (hown : W.ownsRow base 9 1 (.slice (some ⟨g, 0, none⟩) n n) n xs) (hl : news.length = m * 1) (hnews : ∀ j u, news[j]? = some u → W.cell? (ad.add j) = some u) (h1 : ∀ u ∈ news, u.oneCell' = true) (hm : 0 < m) (h63 : n + m ≤ 100000000) (hbase : base ≤ W.heap.size)
    (h : ∀ G cap w', w'.ownsRow base 9 1 (.slice (some ⟨G, 0, none⟩) (n + m) cap) (n + m) (xs ++ news) → New W w' → K (a.put o.dst (.slice (some ⟨G, 0, none⟩) (n + m) cap)) w') :
    if Region.wanted o (yielded ops a.tmps) = true then Oper.wp Tryd.prog o a W K Q else E := by
  obtain ⟨i, hi, hz, hsz, hby⟩ := info_parts infoStr
  have hund := Tryd.underlying24
  obtain ⟨v', w', hr, hw, hg, _⟩ := run_append_own (P := Tryd.prog) W base 24 o.type 9 i _ 1 16 hund hi hz hsz hby rfl (by decide) (.slice (some ⟨g, 0, none⟩) n n) n xs hown ad m c news hl hnews h1 (by unfold maxLen; omega) (by omega) hbase
  have holds : ∀ j u, xs[j]? = some u → W.cell? ((⟨g, 0, none⟩ : Addr).add j) = some u := hown.cells (g := g) rfl
  have hr2 := run_append_grow (P := Tryd.prog) W 24 o.type 9 i _ hund hi hz ⟨g, 0, none⟩ n n xs (by rw [hown.1, hsz]) holds ad m c news (by rw [hl, hsz]) hnews (by omega) (by omega) (growslice_fits (by omega) (by rw [hby]; omega))
  rw [hr] at hr2
  injection hr2 with e1 e2
  subst e1
  have hN : New W w' := by
    rw [e2]
    exact ((New.refl W).drew).alloc _
  have hwt : Region.wanted o (yielded ops a.tmps) = true := by simp [Region.wanted, hgd]
  rw [if_pos hwt]
  unfold Oper.wp execOp
  simp only [ho, resolve, invoke, builtin, Sem.run_bind, Sem.run_pure, Result.andThen_ok, List.map_toArray, List.map_cons, List.map_nil, hs, hx, hr]
  exact h _ _ _ hw hN
theorem wpList_append_run {P : Program} {ops : Array Oper} {rest : List Oper} {o : Oper} {a : Act} {Q : Exit → Act → World → Prop} {w w' : World} {v : Value} (hgd : o.guard = none) (s x : Operand) (t : TypeId)
    (ho : o.op = .call { callee := .builtin .append, args := #[s, x], argTypes := #[t, t] }) (sv xv : Value) (hs : a.eval s = sv) (hx : a.eval x = xv) (hr : (Builtin.append_ #[t, t] o.type #[sv, xv]).run P w = .ok v w')
    (h : wpList P ops Q rest (a.put o.dst v) w') : wpList P ops Q (o :: rest) a w :=
  wpList_plain hgd fun K hK => by
    unfold Oper.wp execOp
    simp only [ho, resolve, invoke, builtin, Sem.run_bind, Sem.run_pure, Result.andThen_ok, List.map_toArray, List.map_cons, List.map_nil, hs, hx, hr]
    exact hK _ _ h
theorem names_run {base N : Nat} {W : World} {v : Value} {xs : List Value} (hown : W.ownsRow base 9 1 v N xs) (B : Option Addr) (e : Nat) (l : List Nm) (h : RdS W B l) (hnil : B = none → e = 0) (hN : N ≤ 100) (hbase : base ≤ W.heap.size) (ty : TypeId) :
    ∃ A' c' w', (Builtin.append_ #[24, 24] ty #[v, .slice B l.length e]).run Tryd.prog W = .ok (.slice A' (N + l.length) c') w' ∧ w'.ownsRow base 9 1 (.slice A' (N + l.length) c') (N + l.length) (xs ++ l.map encStr) ∧ W.grownBy w' v.ownBlock := by
  obtain ⟨i, hi, hz, hsz, hby⟩ := info_parts infoStr
  have hund := Tryd.underlying24
  have hlm := h.1
  cases B with
  | none =>
    have hl0 : l = [] := by
      rcases Nat.eq_zero_or_pos l.length with h0 | h0
      · exact List.eq_nil_of_length_eq_zero h0
      · obtain ⟨g, off, e1, _⟩ := h.2.1 h0
        cases e1
    subst hl0
    obtain rfl := hnil rfl
    have hr := run_append_owned_none (P := Tryd.prog) W base 24 ty 9 i 1 hund hi v N xs hown
    obtain ⟨A', c', rfl, _⟩ := own_open hown
    exact ⟨A', c', W, hr, by simpa using hown, ⟨rfl, rfl, rfl, Nat.le_refl _, fun _ _ _ => rfl⟩⟩
  | some a =>
    obtain ⟨v', w', hr, ho, hg, _⟩ := run_append_own (P := Tryd.prog) W base 24 ty 9 i _ 1 16 hund hi hz hsz hby rfl (by decide) v N xs hown a l.length e (l.map encStr) (by simp) (fun j u hj => by
      have hjl : j < l.length := by
        have := (List.getElem?_eq_some_iff.1 hj).1
        simpa using this
      obtain ⟨g, off, e1, _, hc⟩ := h.2.1 (by omega)
      cases e1
      rw [add_cell, hc j hjl]
      rw [List.getElem?_map, List.getElem?_eq_getElem hjl] at hj
      rw [List.getD, List.getElem?_eq_getElem hjl]
      exact hj) (by simp [encStr, Value.oneCell']) (by unfold maxLen; omega) (by omega) hbase
    obtain ⟨A', c', rfl, _⟩ := own_open ho
    exact ⟨A', c', w', hr, ho, hg⟩
theorem join_own {base M c : Nat} {W : World} {A : Option Addr} (ws : List Tx) (hM : M = ws.length) (h0 : 0 < M) (hown : W.ownsRow base 9 1 (.slice A M c) M (ws.map encStr)) (hlen : (Lib.join ws [32]).length ≤ 140737488355328) (hMm : M ≤ 100000000) :
    Calls Tryd.prog 22 #[.slice A M c, encStr [32]] W fun e w' => e = .returned (encStr (Lib.join ws [32])) ∧ New W w' := by
  obtain ⟨A', c', he, hc1, hc2, hA, hcell⟩ := own_open hown
  injection he with he1 he2 he3
  subst he1
  subst he3
  obtain ⟨g, rfl, _, hg⟩ := hA h0
  have hx : (ws.map fun t => (⟨t.toArray⟩ : ByteArray)).map (·.data.toList) = ws := by
    rw [List.map_map]
    conv => rhs; rw [← List.map_id ws]
    exact List.map_congr_left fun _ _ => rfl
  have h := sh_strings_Join g 0 c (ws.map fun t => (⟨t.toArray⟩ : ByteArray)) ⟨[32].toArray⟩ W (fun j x hj => by
    rw [Nat.zero_add]
    rw [List.getElem?_map] at hj
    obtain ⟨t, ht, rfl⟩ := Option.map_eq_some_iff.1 hj
    exact hcell g rfl j _ (by rw [List.getElem?_map, ht]; rfl)) hg (by simp; omega) (by simp; omega) (by rw [hx]; exact hlen)
  rw [List.length_map, ← hM, hx] at h
  exact h
theorem line_len {code size : Int} {dn : Bool} {f : Nat → Nat} {n : Nat} {l : List Nm} (c0 : -9223372036854775808 ≤ code) (c1 : code ≤ 9223372036854775807) (s0 : -9223372036854775808 ≤ size) (s1 : size ≤ 9223372036854775807) (hn : n ≤ 1048576) (hs : (tailT l).length ≤ 16777216) : (lineT code size dn f n l).length ≤ 33554432 := by
  have h1 := itoa_len21 c0 c1
  have h2 := itoa_len21 s0 s1
  have h3 : (hexT f n).length ≤ 2097152 + 1 := by
    unfold hexT
    split
    · simp
    · rw [hexN_len]; omega
  have h4 : (if code = 0 then ([111, 107] : Tx) else [110, 111, 32] ++ Lib.itoa code).length ≤ 24 := by
    split
    · simp
    · simp; omega
  have h5 : (if dn = true then ([32, 100, 111, 110, 101] : Tx) else []).length ≤ 5 := by
    split <;> simp
  unfold lineT
  simp only [List.length_append, List.length_singleton]
  omega
theorem sz_of {w W : World} {P : Prop} (h : New w W ∧ P) : w.heap.size ≤ W.heap.size := h.1.size
theorem own_of {w Wm W : World} {P : Prop} {base e z n : Nat} {v : Value} {xs : List Value} (hO : Wm.ownsRow base e z v n xs) (h : New w W ∧ New Wm W ∧ P) : W.ownsRow base e z v n xs := own_new hO h.2.1
theorem tell_code (code size : Int) (dn : Bool) (A : Option Addr) (n c : Nat) (f : Nat → Nat) (B : Option Addr) (e : Nat) (l : List Nm) (w : World) (hT : ToldOk w code size A n f B e l) (hc : code < 0) :
    Calls Tryd.prog 7 #[.agg #[.int .i64 code, .bool dn, .int .i64 size, .slice A n c, .slice B l.length e]] w (TlP code size dn f n l w) := by
  have hbad : Hid (badT code size l = true) := by show _ = _; unfold badT; rw [decide_eq_true hc]; rfl
  have hTH := Lib.hid hT
  obtain ⟨k, hk⟩ : ∃ k, Hid (k = l.length) := ⟨_, rfl⟩
  rw [← hk.out]
  obtain ⟨W1, hW1⟩ : ∃ W1, W1 = w.alloc (.cells #[.int .i64 code, .bool dn, .int .i64 size, .slice A n c, .slice B k e] 26) := ⟨_, rfl⟩
  have hN1 : Hid (New w W1) := by show New _ _; rw [hW1]; exact (New.refl w).alloc _
  have hb1 : Hid (Blk W1 w.heap.size 26 #[.int .i64 code, .bool dn, .int .i64 size, .slice A n c, .slice B k e]) := by show Blk _ _ _ _; rw [hW1]; exact Blk.fresh _ _ _
  have x0 := hb1.out.cell 0
  have x1 := hb1.out.cell 1
  have x2 := hb1.out.cell 2
  have x3 := hb1.out.cell 3
  have x4 := hb1.out.cell 4
  simp at x0 x1 x2 x3 x4
  clear hT
  go_enter Tryd.func7, Tryd.ntmps7
  go_upto_region 1 with fail
  rw [← hW1]
  clear hW1
  go_wp2
  exact bodyPost_ret (v := .tuple #[encStr [], .int .i64 4]) (by simp [results, Tryd.results7, go_sem]) rfl (TlP.bad hbad.out hN1.out)
theorem tell_size (code size : Int) (dn : Bool) (A : Option Addr) (n c : Nat) (f : Nat → Nat) (B : Option Addr) (e : Nat) (l : List Nm) (w : World) (hT : ToldOk w code size A n f B e l) (hc : ¬ code < 0) (hs : size < 0) :
    Calls Tryd.prog 7 #[.agg #[.int .i64 code, .bool dn, .int .i64 size, .slice A n c, .slice B l.length e]] w (TlP code size dn f n l w) := by
  have hbad : Hid (badT code size l = true) := by show _ = _; unfold badT; rw [decide_eq_true hs]; simp
  have hTH := Lib.hid hT
  obtain ⟨k, hk⟩ : ∃ k, Hid (k = l.length) := ⟨_, rfl⟩
  rw [← hk.out]
  obtain ⟨W1, hW1⟩ : ∃ W1, W1 = w.alloc (.cells #[.int .i64 code, .bool dn, .int .i64 size, .slice A n c, .slice B k e] 26) := ⟨_, rfl⟩
  have hN1 : Hid (New w W1) := by show New _ _; rw [hW1]; exact (New.refl w).alloc _
  have hb1 : Hid (Blk W1 w.heap.size 26 #[.int .i64 code, .bool dn, .int .i64 size, .slice A n c, .slice B k e]) := by show Blk _ _ _ _; rw [hW1]; exact Blk.fresh _ _ _
  have x0 := hb1.out.cell 0
  have x1 := hb1.out.cell 1
  have x2 := hb1.out.cell 2
  have x3 := hb1.out.cell 3
  have x4 := hb1.out.cell 4
  simp at x0 x1 x2 x3 x4
  clear hT
  go_enter Tryd.func7, Tryd.ntmps7
  go_upto_region 1 with fail
  rw [← hW1]
  clear hW1
  go_wp2
  exact bodyPost_ret (v := .tuple #[encStr [], .int .i64 4]) (by simp [results, Tryd.results7, go_sem]) rfl (TlP.bad hbad.out hN1.out)
theorem tell_odd (code size : Int) (dn : Bool) (A : Option Addr) (n c : Nat) (f : Nat → Nat) (B : Option Addr) (e : Nat) (l : List Nm) (w : World) (hT : ToldOk w code size A n f B e l) (hc : ¬ code < 0) (hs : ¬ size < 0) (hbb : l.any oddN = true) :
    Calls Tryd.prog 7 #[.agg #[.int .i64 code, .bool dn, .int .i64 size, .slice A n c, .slice B l.length e]] w (TlP code size dn f n l w) := by
  have hbad : Hid (badT code size l = true) := by show _ = _; unfold badT; rw [hbb]; simp
  have hTH := Lib.hid hT
  obtain ⟨k, hk⟩ : ∃ k, Hid (k = l.length) := ⟨_, rfl⟩
  rw [← hk.out]
  obtain ⟨W1, hW1⟩ : ∃ W1, W1 = w.alloc (.cells #[.int .i64 code, .bool dn, .int .i64 size, .slice A n c, .slice B k e] 26) := ⟨_, rfl⟩
  have hN1 : Hid (New w W1) := by show New _ _; rw [hW1]; exact (New.refl w).alloc _
  have hb1 : Hid (Blk W1 w.heap.size 26 #[.int .i64 code, .bool dn, .int .i64 size, .slice A n c, .slice B k e]) := by show Blk _ _ _ _; rw [hW1]; exact Blk.fresh _ _ _
  have x0 := hb1.out.cell 0
  have x1 := hb1.out.cell 1
  have x2 := hb1.out.cell 2
  have x3 := hb1.out.cell 3
  have x4 := hb1.out.cell 4
  simp at x0 x1 x2 x3 x4
  clear hT
  have hco : Hid (Calls Tryd.prog 19 #[.slice B k e, .func (.func 17) #[] #[]] W1 fun e w' => e = .returned (.bool true) ∧ New W1 w') := by
    show Calls _ _ _ _ _
    rw [hk.out, ← hbb]
    exact Contains_any B e l W1 (hTH.out.nam.new hN1.out)
  clear hbb
  go_enter Tryd.func7, Tryd.ntmps7
  go_upto_region 1 with fail
  rw [← hW1]
  clear hW1
  go_wp2_with (go_at_call 19; refine hco.out.mono ?_; rintro e w2 ⟨rfl, hn2⟩; have hn2 := Lib.hid hn2)
  exact bodyPost_ret (v := .tuple #[encStr [], .int .i64 4]) (by simp [results, Tryd.results7, go_sem]) rfl (TlP.bad hbad.out (hN1.out.next hn2.out))
set_option maxHeartbeats 2000000 in
theorem tell_ok (code size : Int) (dn : Bool) (A : Option Addr) (n c : Nat) (f : Nat → Nat) (B : Option Addr) (e : Nat) (l : List Nm) (w : World) (hT : ToldOk w code size A n f B e l) (hz : code = 0) (hc : ¬ code < 0) (hs : ¬ size < 0) (hbb : l.any oddN = false) :
    Calls Tryd.prog 7 #[.agg #[.int .i64 code, .bool dn, .int .i64 size, .slice A n c, .slice B l.length e]] w (TlP code size dn f n l w) := by
  have hgood : Hid (badT code size l = false) := by show _ = _; unfold badT; rw [hbb, decide_eq_false hc, decide_eq_false hs]; rfl
  obtain ⟨i0, hi0, hz0, hz1, hz2⟩ := info_parts infoStr
  subst hz
  have hTH := Lib.hid hT
  obtain ⟨k, hk⟩ : ∃ k, Hid (k = l.length) := ⟨_, rfl⟩
  rw [← hk.out]
  obtain ⟨W1, hW1⟩ : ∃ W1, W1 = w.alloc (.cells #[.int .i64 0, .bool dn, .int .i64 size, .slice A n c, .slice B k e] 26) := ⟨_, rfl⟩
  have hN1 : Hid (New w W1) := by show New _ _; rw [hW1]; exact (New.refl w).alloc _
  have hb1 : Hid (Blk W1 w.heap.size 26 #[.int .i64 0, .bool dn, .int .i64 size, .slice A n c, .slice B k e]) := by show Blk _ _ _ _; rw [hW1]; exact Blk.fresh _ _ _
  have x0 := hb1.out.cell 0
  have x1 := hb1.out.cell 1
  have x2 := hb1.out.cell 2
  have x3 := hb1.out.cell 3
  have x4 := hb1.out.cell 4
  simp at x0 x1 x2 x3 x4
  clear hT
  have hco : Hid (Calls Tryd.prog 19 #[.slice B k e, .func (.func 17) #[] #[]] W1 fun e w' => e = .returned (.bool false) ∧ New W1 w') := by
    show Calls _ _ _ _ _
    rw [hk.out, ← hbb]
    exact Contains_any B e l W1 (hTH.out.nam.new hN1.out)
  clear hbb
  go_enter Tryd.func7, Tryd.ntmps7
  go_upto_region 1 with fail
  rw [← hW1]
  clear hW1
  go_upto_region 4 with (go_at_call 19; refine hco.out.mono ?_; rintro e w2 ⟨rfl, hn2⟩; have hn2 := Lib.hid hn2)
  obtain ⟨Wm, hWm⟩ : ∃ Wm, Wm = w2.alloc (.cells #[encStr [111, 107]] 9) := ⟨_, rfl⟩
  have hnm : Hid (New w2 Wm) := by show New _ _; rw [hWm]; exact (New.refl w2).alloc _
  have hwz : w.heap.size ≤ w2.heap.size := (hN1.out.next hn2.out).size
  have hO : Hid (Wm.ownsRow w.heap.size 9 1 (.slice (some ⟨w2.heap.size, 0, none⟩) 1 1) 1 ((headT 0).map encStr)) := by
    show World.ownsRow _ _ _ _ _ _ _
    rw [hWm]
    exact World.ownsRow_lit w2 #[encStr [111, 107]] 1 hwz (by decide) rfl
  have hn13 : Hid (New W1 Wm) := hn2.out.next hnm.out
  have hbm := Lib.hid (hb1.out.new hn13.out)
  clear x0 x1 x2 x3 x4
  have x0 := hbm.out.cell 0
  have x1 := hbm.out.cell 1
  have x2 := hbm.out.cell 2
  have x3 := hbm.out.cell 3
  have x4 := hbm.out.cell 4
  simp at x0 x1 x2 x3 x4
  go_upto_region 5 with fail
  rw [← hWm]
  clear hWm
  obtain ⟨g5, hg5⟩ : ∃ g5, Hid (g5 = w2.heap.size) := ⟨_, rfl⟩
  rw [← hg5.out] at hO ⊢
  go_upto_region 7 with fail
  have hNm := Lib.hid (hN1.out.next hn13.out)
  have hH : Hid ((headT 0).length = 1) := by show _ = _; simp [headT]
  have hI : Hid (∀ w', New w w' → Calls Tryd.prog 20 #[.int .i64 size] w' fun e w'' => e = .returned (encStr (Lib.itoa size)) ∧ New w' w'') := fun w' hn => itoa_new size hTH.out.s0 hTH.out.s1 w' (tab_new hTH.out.tab hn)
  have hX : Hid (∀ w', New w w' → Calls Tryd.prog 21 #[.slice A n c] w' fun e w'' => e = .returned (encStr (hexT f n)) ∧ New w' w'') := fun w' hn => hex_any A n c f w' (hTH.out.dat.new hn) hTH.out.lt hTH.out.n1
  obtain ⟨dg, hdg⟩ : ∃ dg, Hid (dg = Lib.itoa size) := ⟨_, rfl⟩
  obtain ⟨hx, hhx⟩ : ∃ hx, Hid (hx = hexT f n) := ⟨_, rfl⟩
  rw [← hdg.out] at hI
  rw [← hhx.out] at hX
  have hstep : Hid (∀ W w', (New w W ∧ New Wm W ∧ W.cell? ⟨w.heap.size, 2, none⟩ = some (.int .i64 size) ∧ W.cell? ⟨w.heap.size, 3, none⟩ = some (.slice A n c)) → New W w' → (New w w' ∧ New Wm w' ∧ w'.cell? ⟨w.heap.size, 2, none⟩ = some (.int .i64 size) ∧ w'.cell? ⟨w.heap.size, 3, none⟩ = some (.slice A n c))) := fun W w' h hn => ⟨h.1.next hn, h.2.1.next hn, (hn.cell (lt_of_cell h.2.2.1)).trans h.2.2.1, (hn.cell (lt_of_cell h.2.2.2)).trans h.2.2.2⟩
  have hS0 : New w Wm.drew ∧ New Wm Wm.drew ∧ Wm.drew.cell? ⟨w.heap.size, 2, none⟩ = some (.int .i64 size) ∧ Wm.drew.cell? ⟨w.heap.size, 3, none⟩ = some (.slice A n c) := ⟨hNm.out.drew, (New.refl _).drew, x2, x3⟩
  go_wp2
  go_region_held3 (fun w' => New w w' ∧ New Wm w' ∧ w'.cell? ⟨w.heap.size, 2, none⟩ = some (.int .i64 size) ∧ w'.cell? ⟨w.heap.size, 3, none⟩ = some (.slice A n c))
    (first
      | with_reducible exact hS0
      | with_reducible assumption
      | exact hstep.out _ _ (by assumption) hn2'
      | exact hstep.out _ _ (by assumption) hn3'
      | exact hstep.out _ _ (by assumption) hn7'
      | exact hstep.out _ _ (by assumption) ((New.refl _).alloc _))
    (first
      | (go_at_call 20; refine (hI.out _ (And.left (by assumption))).mono ?_; rintro e w5 ⟨rfl, hn2'⟩)
      | (go_at_call 21; refine (hX.out _ (And.left (by assumption))).mono ?_; rintro e w6 ⟨rfl, hn3'⟩)
      | (refine step_append_full (by rfl) _ _ (by rfl) w.heap.size g5 1 2 2 ((headT 0).map encStr) [encStr dg, encStr hx] (by rfl) _ (by rfl) (own_of hO.out (by assumption)) rfl (World.news_of_block (cs := #[.string _, .string _]) (t := 9) (fr := (0, 0)) (heap_alloc_new _ _)) (by simp [Value.oneCell', encStr]) (by omega) (by omega) (sz_of (by assumption)) ?_
         intro G c7 w7 hown7 hn7'))
  all_goals
    have hw7 : New w w7 := And.left ‹New w w7 ∧ _›
    have hm7 : New Wm w7 := And.left (And.right ‹New w w7 ∧ New Wm w7 ∧ _›)
    have hb7 := Lib.hid (hbm.out.new hm7)
    have hO7 : Hid (w7.ownsRow w.heap.size 9 1 (.slice (some ⟨G, 0, none⟩) 3 c7) 3 ((headT 0 ++ [dg, hx]).map encStr)) := by
      show World.ownsRow _ _ _ _ _ _ _
      rw [List.map_append]
      exact hown7
    have hw7 := Lib.hid hw7
    clear ‹New w w7 ∧ _› hn7' hn2' hn3' hown7 hm7 hS0 x0 x1 x2 x3 x4
    have x1 := hb7.out.cell 1
    have x4 := hb7.out.cell 4
    simp at x1 x4
    have hlt7 := hw7.out.size
    have hll := Lib.hid (line_len (dn := dn) (f := f) hTH.out.c0 hTH.out.c1 hTH.out.s0 hTH.out.s1 hTH.out.n1 hTH.out.sum)
    have hkm := hTH.out.nam.1
    rw [← hk.out] at hkm
    cases dn
    · obtain ⟨A9, c9, w9, hr9, ho9, hg9⟩ := names_run hO7.out B e l (hTH.out.nam.new hw7.out) hTH.out.nil (by omega) hlt7 24
      rw [← List.map_append] at ho9
      have hN9 : Hid (New w w9) := New.grown hw7.out hg9 fun r e => (hO7.out.lt r e).1
      have hfin : Hid (Lib.join (headT 0 ++ [dg, hx] ++ l) [32] = lineT 0 size false f n l) := by
        show _ = _
        rw [hdg.out, hhx.out, ← words_line]
        simp [wordsT]
      have hj := Lib.hid (join_own (headT 0 ++ [dg, hx] ++ l) (by rw [List.length_append, List.length_append, hH.out]; rfl) (by omega) ho9 (by rw [hfin.out]; have := hll.out; omega) (by have := hk.out; omega))
      rw [← hk.out, hfin.out] at hj
      rw [← hk.out] at hr9
      clear ho9 hg9
      go_wp2_with (first
        | (at_builtin; refine wpList_append_run rfl (.tmp 42) (.tmp 44) 24 rfl _ _ rfl rfl hr9 ?_; clear hr9)
        | (go_at_call 22; refine hj.out.mono ?_; rintro e w10 ⟨rfl, hn10⟩; have hn10 := Lib.hid hn10))
      exact bodyPost_ret (v := .tuple #[encStr _, .int .i64 0]) (by simp [results, Tryd.results7, go_sem]) rfl (TlP.good hgood.out rfl (hN9.out.next hn10.out))
    · have hfin : Hid (Lib.join (headT 0 ++ [dg, hx] ++ [[100, 111, 110, 101]] ++ l) [32] = lineT 0 size true f n l) := by
        show _ = _
        rw [hdg.out, hhx.out, ← words_line]
        simp [wordsT]
      go_upto_region 10 with (at_builtin; refine wpList_append_lies _ rfl (.tmp 39) (.tmp 40) 24 rfl w.heap.size 9 i0 _ 1 16 Tryd.underlying24 hi0 hz0 hz1 hz2 rfl (by decide) (.slice (some ⟨G, 0, none⟩) 3 c7) 3 ((headT 0 ++ [dg, hx]).map encStr) rfl (hO7.out.alloc _) ⟨w7.heap.size, 0, none⟩ 1 1 [encStr [100, 111, 110, 101]] rfl rfl (World.news_of_block (cs := #[.string _]) (t := 9) (fr := (0, 0)) (heap_alloc_new w7 _)) (by simp [Value.oneCell', encStr]) (by omega) (by unfold maxLen; omega) (by omega) (by simp; omega) _ rfl ?_; intro g8 c8 w8 hown8 hgr8 hat8 hlt8)
      have hN8 := Lib.hid ((hw7.out.alloc (.cells #[encStr [100, 111, 110, 101]] 9)).grown hgr8 fun r e => (hO7.out.lt r e).1)
      have hb8 := (hb7.out.alloc (.cells #[encStr [100, 111, 110, 101]] 9)).grown hgr8 (own_ne_blk (hO7.out.alloc (.cells #[encStr [100, 111, 110, 101]] 9)) (hb7.out.alloc (.cells #[encStr [100, 111, 110, 101]] 9)) (by decide))
      have x4 := hb8.cell 4
      simp at x4
      obtain ⟨A9, c9, w9, hr9, ho9, hg9⟩ := names_run hown8 B e l (hTH.out.nam.new hN8.out) hTH.out.nil (by omega) hN8.out.size 24
      rw [show ((headT 0 ++ [dg, hx]).map encStr ++ [encStr [100, 111, 110, 101]] ++ l.map encStr) = (headT 0 ++ [dg, hx] ++ [[100, 111, 110, 101]] ++ l).map encStr by simp] at ho9
      have hN9 : Hid (New w w9) := New.grown hN8.out hg9 fun r e => (hown8.lt r e).1
      have hj := Lib.hid (join_own (headT 0 ++ [dg, hx] ++ [[100, 111, 110, 101]] ++ l) (by rw [List.length_append, List.length_append, List.length_append, hH.out]; rfl) (by omega) ho9 (by rw [hfin.out]; have := hll.out; omega) (by have := hk.out; omega))
      rw [← hk.out, hfin.out] at hj
      rw [← hk.out] at hr9
      clear ho9 hg9 hown8 hgr8 hat8 hlt8 hb8
      go_wp2_with (first
        | (at_builtin; refine wpList_append_run rfl (.tmp 42) (.tmp 44) 24 rfl _ _ rfl rfl hr9 ?_; clear hr9)
        | (go_at_call 22; refine hj.out.mono ?_; rintro e w10 ⟨rfl, hn10⟩; have hn10 := Lib.hid hn10))
      exact bodyPost_ret (v := .tuple #[encStr _, .int .i64 0]) (by simp [results, Tryd.results7, go_sem]) rfl (TlP.good hgood.out rfl (hN9.out.next hn10.out))
set_option maxHeartbeats 2000000 in
theorem tell_no (code size : Int) (dn : Bool) (A : Option Addr) (n c : Nat) (f : Nat → Nat) (B : Option Addr) (e : Nat) (l : List Nm) (w : World) (hT : ToldOk w code size A n f B e l) (hz : ¬ code = 0) (hc : ¬ code < 0) (hs : ¬ size < 0) (hbb : l.any oddN = false) :
    Calls Tryd.prog 7 #[.agg #[.int .i64 code, .bool dn, .int .i64 size, .slice A n c, .slice B l.length e]] w (TlP code size dn f n l w) := by
  have hgood : Hid (badT code size l = false) := by show _ = _; unfold badT; rw [hbb, decide_eq_false hc, decide_eq_false hs]; rfl
  obtain ⟨i0, hi0, hz0, hz1, hz2⟩ := info_parts infoStr
  have hTH := Lib.hid hT
  obtain ⟨k, hk⟩ : ∃ k, Hid (k = l.length) := ⟨_, rfl⟩
  rw [← hk.out]
  obtain ⟨W1, hW1⟩ : ∃ W1, W1 = w.alloc (.cells #[.int .i64 code, .bool dn, .int .i64 size, .slice A n c, .slice B k e] 26) := ⟨_, rfl⟩
  have hN1 : Hid (New w W1) := by show New _ _; rw [hW1]; exact (New.refl w).alloc _
  have hb1 : Hid (Blk W1 w.heap.size 26 #[.int .i64 code, .bool dn, .int .i64 size, .slice A n c, .slice B k e]) := by show Blk _ _ _ _; rw [hW1]; exact Blk.fresh _ _ _
  have x0 := hb1.out.cell 0
  have x1 := hb1.out.cell 1
  have x2 := hb1.out.cell 2
  have x3 := hb1.out.cell 3
  have x4 := hb1.out.cell 4
  simp at x0 x1 x2 x3 x4
  clear hT
  have hco : Hid (Calls Tryd.prog 19 #[.slice B k e, .func (.func 17) #[] #[]] W1 fun e w' => e = .returned (.bool false) ∧ New W1 w') := by
    show Calls _ _ _ _ _
    rw [hk.out, ← hbb]
    exact Contains_any B e l W1 (hTH.out.nam.new hN1.out)
  clear hbb
  go_enter Tryd.func7, Tryd.ntmps7
  go_upto_region 1 with fail
  rw [← hW1]
  clear hW1
  go_upto_region 4 with (go_at_call 19; refine hco.out.mono ?_; rintro e w2 ⟨rfl, hn2⟩; have hn2 := Lib.hid hn2)
  obtain ⟨W3, hW3⟩ : ∃ W3, W3 = w2.alloc (.cells #[encStr [111, 107]] 9) := ⟨_, rfl⟩
  have hn3 : Hid (New w2 W3) := by show New _ _; rw [hW3]; exact (New.refl w2).alloc _
  have hn23 : Hid (New W1 W3) := hn2.out.next hn3.out
  have hbn := Lib.hid (hb1.out.new hn23.out)
  clear x0 x1 x2 x3 x4
  have x0 := hbn.out.cell 0
  have x1 := hbn.out.cell 1
  have x2 := hbn.out.cell 2
  have x3 := hbn.out.cell 3
  have x4 := hbn.out.cell 4
  simp at x0 x1 x2 x3 x4
  go_upto_region 5 with fail
  rw [← hW3]
  clear hW3
  obtain ⟨dc, hdc⟩ : ∃ dc, Hid (dc = Lib.itoa code) := ⟨_, rfl⟩
  have hN3 := Lib.hid (hN1.out.next hn23.out)
  have hIc : Hid (Calls Tryd.prog 20 #[.int .i64 code] W3 fun e w' => e = .returned (encStr dc) ∧ New W3 w') := by
    show Calls _ _ _ _ _
    rw [hdc.out]
    exact itoa_new code hTH.out.c0 hTH.out.c1 W3 (tab_new hTH.out.tab hN3.out)
  have hzb : (code == 0) = false := by simpa using hz
  have hzH := Lib.hid hz
  clear hz
  go_upto_region 7 with (go_at_call 20; refine hIc.out.mono ?_; rintro e w4 ⟨rfl, hn4⟩; have hn4 := Lib.hid hn4)
  obtain ⟨Wm, hWm⟩ : ∃ Wm, Wm = w4.alloc (.cells #[encStr [110, 111], encStr dc] 9) := ⟨_, rfl⟩
  have hnm : Hid (New w4 Wm) := by show New _ _; rw [hWm]; exact (New.refl w4).alloc _
  have hwz : w.heap.size ≤ w4.heap.size := (hN3.out.next hn4.out).size
  have hO : Hid (Wm.ownsRow w.heap.size 9 1 (.slice (some ⟨w4.heap.size, 0, none⟩) 2 2) 2 ((headT code).map encStr)) := by
    show World.ownsRow _ _ _ _ _ _ _
    unfold headT
    rw [hWm, if_neg hzH.out, ← hdc.out]
    exact World.ownsRow_lit w4 #[encStr [110, 111], encStr dc] 2 hwz (by decide) rfl
  rw [← hWm]
  clear hWm
  have hn13 : Hid (New W1 Wm) := (hn23.out.next hn4.out).next hnm.out
  have hbm := Lib.hid (hb1.out.new hn13.out)
  clear x0 x1 x2 x3 x4
  have x0 := hbm.out.cell 0
  have x1 := hbm.out.cell 1
  have x2 := hbm.out.cell 2
  have x3 := hbm.out.cell 3
  have x4 := hbm.out.cell 4
  simp at x0 x1 x2 x3 x4
  obtain ⟨g5, hg5⟩ : ∃ g5, Hid (g5 = w4.heap.size) := ⟨_, rfl⟩
  rw [← hg5.out] at hO ⊢
  have hNm := Lib.hid (hN1.out.next hn13.out)
  have hH : Hid ((headT code).length = 2) := by show _ = _; unfold headT; rw [if_neg hzH.out]; rfl
  have hI : Hid (∀ w', New w w' → Calls Tryd.prog 20 #[.int .i64 size] w' fun e w'' => e = .returned (encStr (Lib.itoa size)) ∧ New w' w'') := fun w' hn => itoa_new size hTH.out.s0 hTH.out.s1 w' (tab_new hTH.out.tab hn)
  have hX : Hid (∀ w', New w w' → Calls Tryd.prog 21 #[.slice A n c] w' fun e w'' => e = .returned (encStr (hexT f n)) ∧ New w' w'') := fun w' hn => hex_any A n c f w' (hTH.out.dat.new hn) hTH.out.lt hTH.out.n1
  obtain ⟨dg, hdg⟩ : ∃ dg, Hid (dg = Lib.itoa size) := ⟨_, rfl⟩
  obtain ⟨hx, hhx⟩ : ∃ hx, Hid (hx = hexT f n) := ⟨_, rfl⟩
  rw [← hdg.out] at hI
  rw [← hhx.out] at hX
  have hstep : Hid (∀ W w', (New w W ∧ New Wm W ∧ W.cell? ⟨w.heap.size, 2, none⟩ = some (.int .i64 size) ∧ W.cell? ⟨w.heap.size, 3, none⟩ = some (.slice A n c)) → New W w' → (New w w' ∧ New Wm w' ∧ w'.cell? ⟨w.heap.size, 2, none⟩ = some (.int .i64 size) ∧ w'.cell? ⟨w.heap.size, 3, none⟩ = some (.slice A n c))) := fun W w' h hn => ⟨h.1.next hn, h.2.1.next hn, (hn.cell (lt_of_cell h.2.2.1)).trans h.2.2.1, (hn.cell (lt_of_cell h.2.2.2)).trans h.2.2.2⟩
  have hS0 : New w Wm.drew ∧ New Wm Wm.drew ∧ Wm.drew.cell? ⟨w.heap.size, 2, none⟩ = some (.int .i64 size) ∧ Wm.drew.cell? ⟨w.heap.size, 3, none⟩ = some (.slice A n c) := ⟨hNm.out.drew, (New.refl _).drew, x2, x3⟩
  go_wp2
  go_region_held3 (fun w' => New w w' ∧ New Wm w' ∧ w'.cell? ⟨w.heap.size, 2, none⟩ = some (.int .i64 size) ∧ w'.cell? ⟨w.heap.size, 3, none⟩ = some (.slice A n c))
    (first
      | with_reducible exact hS0
      | with_reducible assumption
      | exact hstep.out _ _ (by assumption) hn2'
      | exact hstep.out _ _ (by assumption) hn3'
      | exact hstep.out _ _ (by assumption) hn7'
      | exact hstep.out _ _ (by assumption) ((New.refl _).alloc _))
    (first
      | (go_at_call 20; refine (hI.out _ (And.left (by assumption))).mono ?_; rintro e w5 ⟨rfl, hn2'⟩)
      | (go_at_call 21; refine (hX.out _ (And.left (by assumption))).mono ?_; rintro e w6 ⟨rfl, hn3'⟩)
      | (refine step_append_full (by rfl) _ _ (by rfl) w.heap.size g5 2 2 2 ((headT code).map encStr) [encStr dg, encStr hx] (by rfl) _ (by rfl) (own_of hO.out (by assumption)) rfl (World.news_of_block (cs := #[.string _, .string _]) (t := 9) (fr := (0, 0)) (heap_alloc_new _ _)) (by simp [Value.oneCell', encStr]) (by omega) (by omega) (sz_of (by assumption)) ?_
         intro G c7 w7 hown7 hn7'))
  all_goals
    have hw7 : New w w7 := And.left ‹New w w7 ∧ _›
    have hm7 : New Wm w7 := And.left (And.right ‹New w w7 ∧ New Wm w7 ∧ _›)
    have hb7 := Lib.hid (hbm.out.new hm7)
    have hO7 : Hid (w7.ownsRow w.heap.size 9 1 (.slice (some ⟨G, 0, none⟩) 4 c7) 4 ((headT code ++ [dg, hx]).map encStr)) := by
      show World.ownsRow _ _ _ _ _ _ _
      rw [List.map_append]
      exact hown7
    have hw7 := Lib.hid hw7
    clear ‹New w w7 ∧ _› hn7' hn2' hn3' hown7 hm7 hS0 x0 x1 x2 x3 x4
    have x1 := hb7.out.cell 1
    have x4 := hb7.out.cell 4
    simp at x1 x4
    have hlt7 := hw7.out.size
    have hll := Lib.hid (line_len (dn := dn) (f := f) hTH.out.c0 hTH.out.c1 hTH.out.s0 hTH.out.s1 hTH.out.n1 hTH.out.sum)
    have hkm := hTH.out.nam.1
    rw [← hk.out] at hkm
    cases dn
    · obtain ⟨A9, c9, w9, hr9, ho9, hg9⟩ := names_run hO7.out B e l (hTH.out.nam.new hw7.out) hTH.out.nil (by omega) hlt7 24
      rw [← List.map_append] at ho9
      have hN9 : Hid (New w w9) := New.grown hw7.out hg9 fun r e => (hO7.out.lt r e).1
      have hfin : Hid (Lib.join (headT code ++ [dg, hx] ++ l) [32] = lineT code size false f n l) := by
        show _ = _
        rw [hdg.out, hhx.out, ← words_line]
        simp [wordsT]
      have hj := Lib.hid (join_own (headT code ++ [dg, hx] ++ l) (by rw [List.length_append, List.length_append, hH.out]; rfl) (by omega) ho9 (by rw [hfin.out]; have := hll.out; omega) (by have := hk.out; omega))
      rw [← hk.out, hfin.out] at hj
      rw [← hk.out] at hr9
      clear ho9 hg9
      go_wp2_with (first
        | (at_builtin; refine wpList_append_run rfl (.tmp 42) (.tmp 44) 24 rfl _ _ rfl rfl hr9 ?_; clear hr9)
        | (go_at_call 22; refine hj.out.mono ?_; rintro e w10 ⟨rfl, hn10⟩; have hn10 := Lib.hid hn10))
      exact bodyPost_ret (v := .tuple #[encStr _, .int .i64 0]) (by simp [results, Tryd.results7, go_sem]) rfl (TlP.good hgood.out rfl (hN9.out.next hn10.out))
    · have hfin : Hid (Lib.join (headT code ++ [dg, hx] ++ [[100, 111, 110, 101]] ++ l) [32] = lineT code size true f n l) := by
        show _ = _
        rw [hdg.out, hhx.out, ← words_line]
        simp [wordsT]
      go_upto_region 10 with (at_builtin; refine wpList_append_lies _ rfl (.tmp 39) (.tmp 40) 24 rfl w.heap.size 9 i0 _ 1 16 Tryd.underlying24 hi0 hz0 hz1 hz2 rfl (by decide) (.slice (some ⟨G, 0, none⟩) 4 c7) 4 ((headT code ++ [dg, hx]).map encStr) rfl (hO7.out.alloc _) ⟨w7.heap.size, 0, none⟩ 1 1 [encStr [100, 111, 110, 101]] rfl rfl (World.news_of_block (cs := #[.string _]) (t := 9) (fr := (0, 0)) (heap_alloc_new w7 _)) (by simp [Value.oneCell', encStr]) (by omega) (by unfold maxLen; omega) (by omega) (by simp; omega) _ rfl ?_; intro g8 c8 w8 hown8 hgr8 hat8 hlt8)
      have hN8 := Lib.hid ((hw7.out.alloc (.cells #[encStr [100, 111, 110, 101]] 9)).grown hgr8 fun r e => (hO7.out.lt r e).1)
      have hb8 := (hb7.out.alloc (.cells #[encStr [100, 111, 110, 101]] 9)).grown hgr8 (own_ne_blk (hO7.out.alloc (.cells #[encStr [100, 111, 110, 101]] 9)) (hb7.out.alloc (.cells #[encStr [100, 111, 110, 101]] 9)) (by decide))
      have x4 := hb8.cell 4
      simp at x4
      obtain ⟨A9, c9, w9, hr9, ho9, hg9⟩ := names_run hown8 B e l (hTH.out.nam.new hN8.out) hTH.out.nil (by omega) hN8.out.size 24
      rw [show ((headT code ++ [dg, hx]).map encStr ++ [encStr [100, 111, 110, 101]] ++ l.map encStr) = (headT code ++ [dg, hx] ++ [[100, 111, 110, 101]] ++ l).map encStr by simp] at ho9
      have hN9 : Hid (New w w9) := New.grown hN8.out hg9 fun r e => (hown8.lt r e).1
      have hj := Lib.hid (join_own (headT code ++ [dg, hx] ++ [[100, 111, 110, 101]] ++ l) (by rw [List.length_append, List.length_append, List.length_append, hH.out]; rfl) (by omega) ho9 (by rw [hfin.out]; have := hll.out; omega) (by have := hk.out; omega))
      rw [← hk.out, hfin.out] at hj
      rw [← hk.out] at hr9
      clear ho9 hg9 hown8 hgr8 hat8 hlt8 hb8
      go_wp2_with (first
        | (at_builtin; refine wpList_append_run rfl (.tmp 42) (.tmp 44) 24 rfl _ _ rfl rfl hr9 ?_; clear hr9)
        | (go_at_call 22; refine hj.out.mono ?_; rintro e w10 ⟨rfl, hn10⟩; have hn10 := Lib.hid hn10))
      exact bodyPost_ret (v := .tuple #[encStr _, .int .i64 0]) (by simp [results, Tryd.results7, go_sem]) rfl (TlP.good hgood.out rfl (hN9.out.next hn10.out))
theorem Tell_any (code size : Int) (dn : Bool) (A : Option Addr) (n c : Nat) (f : Nat → Nat) (B : Option Addr) (e : Nat) (l : List Nm) (w : World) (hT : ToldOk w code size A n f B e l) :
    Calls Tryd.prog 7 #[.agg #[.int .i64 code, .bool dn, .int .i64 size, .slice A n c, .slice B l.length e]] w (TlP code size dn f n l w) := by
  by_cases hc : code < 0
  · exact tell_code code size dn A n c f B e l w hT hc
  by_cases hs : size < 0
  · exact tell_size code size dn A n c f B e l w hT hc hs
  cases hbb : l.any oddN
  · by_cases hz : code = 0
    · exact tell_ok code size dn A n c f B e l w hT hz hc hs hbb
    · exact tell_no code size dn A n c f B e l w hT hz hc hs hbb
  · exact tell_odd code size dn A n c f B e l w hT hc hs hbb
end Go.Proofs.YtaommipcdcncnaaDoor.desk
