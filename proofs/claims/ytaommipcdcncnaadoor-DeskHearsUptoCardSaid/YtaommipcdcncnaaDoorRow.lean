/-
  A row of one's own whose every cell is known: append where there is room; append of noughts to a row of one's own.
-/
import Derived.Test.YtaommipcdcncnaaDoorQuietTail
import Derived.Test.YtaommipcdcncnaaDoorRows2
import Derived.Deep.OwnRows
import Derived.OwnWalk
import Derived.Maps.AppendAt
import Derived.Deep.AppendLies
import Derived.Lib.JoinLaws
import Derived.Lib.AppendZerosOnto
import Derived.ArgAppend
import Derived.Handy
namespace Go.Proofs.YtaommipcdcncnaaDoor.kit
open Go.RowKit Go.Deep
set_option linter.unusedVariables false

theorem grown_set (w : World) (U q : Nat) (v : Value) : w.grownBy (w.setCell ⟨U, q, none⟩ v) (some U) :=
  ⟨rfl, rfl, rfl, by simp, fun k _ hk => Below.heap_setCell w ⟨U, q, none⟩ v k (fun e => hk (by simp [e]))⟩
theorem grown_refl (w : World) (row : Option Nat) : w.grownBy w row := ⟨rfl, rfl, rfl, Nat.le_refl _, fun _ _ _ => rfl⟩
theorem grown_new {w w' : World} (h : New w w') (row : Option Nat) : w.grownBy w' row := ⟨h.os, h.tape, h.output, h.size, fun k hk _ => h.block k hk⟩
theorem New.of_grown {w w' : World} (h : w.grownBy w' none) : New w w' := ⟨h.os, h.tape, h.output, h.size, fun k hk => h.block k hk (by simp)⟩
/-- behind a call that only writes into a row of the call's own -/
theorem New.grown {w w1 w2 : World} {row : Option Nat} (h : New w w1) (hg : w1.grownBy w2 row) (hr : ∀ g, row = some g → w.heap.size ≤ g) : New w w2 := Below.grown h hg h.size hr
theorem New.grown1 {w w1 w2 : World} {g : Nat} (h : New w w1) (hg : w1.grownBy w2 (some g)) (hr : w.heap.size ≤ g) : New w w2 := h.grown hg fun k hk => by cases hk; exact hr
theorem row_new {w w' : World} {b : Nat} {t : TypeId} {n : Nat} {f : Nat → Value} (h : w.rowIs b t n f) (hn : New w w') : w'.rowIs b t n f := h.of_block (hn.block _ h.lt)
theorem row_grown {w w' : World} {b : Nat} {t : TypeId} {n : Nat} {f : Nat → Value} {row : Option Nat} (h : w.rowIs b t n f) (hg : w.grownBy w' row) (hr : row ≠ some b) : w'.rowIs b t n f := h.of_block (hg.block _ h.lt (Ne.symm hr))

theorem own_mono {w : World} {base base' : Nat} {e : TypeId} {size : Nat} {v : Value} {n : Nat} {xs : List Value} (h : w.ownsRow base e size v n xs) (hb : base' ≤ base) : w.ownsRow base' e size v n xs := by
  refine ⟨h.1, ?_⟩
  rcases h.2 with h0 | ⟨g, cap, cur, rfl, hb2, hr⟩
  · exact .inl h0
  · exact .inr ⟨g, cap, cur, rfl, Nat.le_trans hb hb2, hr⟩
/-- behind an append to a row of the call's own, without a block of news ahead of it -/
theorem New.appendO {w wr w1 : World} {base : Nat} {e : TypeId} {size : Nat} {v : Value} {n : Nat} {xs : List Value} (h : New w wr) (hown : wr.ownsRow base e size v n xs) (hb : w.heap.size ≤ base) (hg : wr.grownBy w1 v.ownBlock) : New w w1 :=
  h.grown hg fun g hg => Nat.le_trans hb (hown.lt _ hg).1
theorem Blk.cell_grown {w w' : World} {g : Nat} {t : TypeId} {cs : Array Value} {row : Option Nat} (h : Blk w g t cs) (hg : w.grownBy w' row) (hr : row ≠ some g) (i : Nat) {u : Value} (hu : cs[i]? = some u) : w'.cell? ⟨g, i, none⟩ = some u := ((h.grown hg hr).cell i).trans hu
theorem own_far {w : World} {base : Nat} {e : TypeId} {size : Nat} {v : Value} {n : Nat} {xs : List Value} (h : w.ownsRow base e size v n xs) {g : Nat} (hg : g < base) : v.ownBlock ≠ some g := fun he => by have := (h.lt _ he).1; omega
/-- a struct's cells, stored at once -/
theorem Blk.row {w : World} {g : Nat} {t : TypeId} {cs : Array Value} (h : Blk w g t cs) (cs' : Array Value) : Blk (w.setRow g cs') g t cs' := setRow_heap w g cs cs' t _ h
theorem Blk.row_far {w : World} {g k : Nat} {t : TypeId} {cs : Array Value} (h : Blk w k t cs) (hk : k ≠ g) (cs' : Array Value) : Blk (w.setRow g cs') k t cs := (setRow_other w g k cs' hk).trans h
theorem New.row {a b : World} (h : New a b) {g : Nat} (hg : a.heap.size ≤ g) (cs : Array Value) : New a (b.setRow g cs) :=
  ⟨h.os, h.tape, h.output, by rw [size_setRow]; exact h.size, fun k hk => (setRow_other b g k cs (by omega)).trans (h.block k hk)⟩
/-- results: a variable that lies in a block, and a slot -/
theorem results_cell_slot {P : Program} {fn : Func} {p q : Tmp} {ty : TypeId} (h : fn.results = #[.cell p ty, .tmp q]) (tmps : Array Value) (w : World) (g : Nat) (t : TypeId) (cs : Array Value) (d : TypeDesc)
    (hp : tmps.getD p undef = .pointer (some ⟨g, 0, none⟩)) (hg : Blk w g t cs) (hu : P.underlying ty = some d) (hd : (match d with | .struct _ | .array _ _ => true | _ => false) = true) (hi : (P.info? ty).map (·.size) = some cs.size) :
    (results fn tmps).run P w = .ok (.tuple #[.agg cs, tmps.getD q undef]) w := by
  have hp' : tmps[p]?.getD undef = .pointer (some ⟨g, 0, none⟩) := by simpa using hp
  simp [results, h, hp', asAddr, run_loadVar_row w g t ty cs (0, 0) d hg hu hd hi]
/-- slices of m, one block each -/
def rowsL (G : Nat → Nat) (m k : Nat) : List Value := (List.range k).map fun i => .slice (some ⟨G i, 0, none⟩) m m
theorem rowsL_succ (G : Nat → Nat) (m k g : Nat) : rowsL (fun i => if i = k then g else G i) m (k + 1) = rowsL G m k ++ [.slice (some ⟨g, 0, none⟩) m m] := by
  unfold rowsL
  rw [List.range_succ, List.map_append]
  congr 1
  · apply List.map_congr_left
    intro i hi
    have : i ≠ k := by have := List.mem_range.1 hi; omega
    simp [this]
  · simp
/-- a row of one element type is no row of another -/
theorem row_ne_own {w : World} {base : Nat} {e t : TypeId} {size : Nat} {v : Value} {n b m : Nat} {xs : List Value} {f : Nat → Value} (h : w.ownsRow base e size v n xs) (hr : w.rowIs b t m f) (hne : e ≠ t) : v.ownBlock ≠ some b := by
  intro he
  rcases h.2 with ⟨rfl, _⟩ | ⟨g, cap, cur, rfl, _, hg, _⟩
  · cases he
  · have hgb : g = b := by simpa [Value.ownBlock] using he
    subst hgb
    obtain ⟨c, hc, _⟩ := hr
    rw [hg] at hc
    injection hc with hc
    injection hc with _ hc _
    exact hne hc
/-- own rows behind an own row of slices, read -/
theorem own_rdM {k : IntKind} {w : World} {base : Nat} {size : Nat} {v : Value} {n m : Nat} {G : Nat → Nat} {e t : TypeId} {f : Nat → Nat → Nat} (h : w.ownsRow base e size v n (rowsL G m n)) (hr : ∀ i, i < n → w.rowIs (G i) t m (fun j => .int k (f i j : Nat))) (hm : m ≤ maxLen) :
    ∃ A c, v = .slice A n c ∧ RdM k w A n (fun i => some ⟨G i, 0, none⟩) (fun _ => m) (fun _ => m) (fun i j => (f i j : Nat)) := by
  obtain ⟨A, c, rfl, h1, h2, h3, h4⟩ := own_open h
  refine ⟨A, c, rfl, by omega, fun h0 => ?_, fun i hi => ⟨⟨hm, fun h0 => ⟨G i, 0, rfl, (hr i hi).lt, fun j hj => ?_⟩⟩, Nat.le_refl _, hm⟩⟩
  · obtain ⟨g, rfl, _, hg⟩ := h3 h0
    refine ⟨g, 0, rfl, hg, fun i hi => ?_⟩
    have := h4 g rfl i (.slice (some ⟨G i, 0, none⟩) m m) (by simp [rowsL, hi])
    simpa using this
  · simpa using (hr i hi).cell hj
theorem nil_rdM (k : IntKind) (w : World) (R : Nat → Option Addr) (L C : Nat → Nat) (M : Nat → Nat → Int) : RdM k w none 0 R L C M := ⟨Nat.zero_le _, fun h => absurd h (Nat.lt_irrefl 0), fun i h => absurd h (Nat.not_lt_zero i)⟩
section
variable {P : Program} (w : World)
theorem run_append_one (t ty e : TypeId) (i : TypeInfo) (ht : P.underlying t = some (.slice e)) (hi : P.info? e = some i) (hs : i.size = 1) (g n cap : Nat) (f : Nat → Value) (hrow : w.rowIs g e cap f) (hroom : n < cap)
    (ad : Addr) (c : Nat) (u : Value) (hu : w.cell? ad = some u) (h1 : u.oneCell' = true) :
    (Builtin.append_ #[t, t] ty #[.slice (some ⟨g, 0, none⟩) n cap, .slice (some ad) 1 c]).run P w = .ok (.slice (some ⟨g, 0, none⟩) (n + 1) cap) (w.setCell ⟨g, n, none⟩ u) := by
  have had : ad.add 0 = ad := by simp [Addr.add]
  have h := run_append_room_cells (P := P) w t ty e i ht hi g 0 n cap ad 1 c [u] (by simp [hs]) (fun j v hj => by
      match j with
      | 0 => simp at hj; subst hj; rw [had]; exact hu
      | j + 1 => simp at hj) (fun v hv => by simp at hv; subst hv; exact h1) (by omega) (fun j hj => by
      have : j = 0 := by simpa using hj
      subst this
      rw [hs]
      simp [hrow.cell hroom]) (fun j hj => hrow.frozen _)
  rw [h, hs]
  simp [World.setCells]
theorem wpList_append_one {ops : Array Oper} {rest : List Oper} {o : Oper} {a : Act} {Q : Exit → Act → World → Prop} (hgd : o.guard = none) (s x : Operand) (t : TypeId)
    (ho : o.op = .call { callee := .builtin .append, args := #[s, x], argTypes := #[t, t] }) (e : TypeId) (i : TypeInfo) (ht : P.underlying t = some (.slice e)) (hi : P.info? e = some i) (hs1 : i.size = 1)
    (g n cap : Nat) (f : Nat → Value) (hrow : w.rowIs g e cap f) (hroom : n < cap) (hs : a.eval s = .slice (some ⟨g, 0, none⟩) n cap)
    (ad : Addr) (c : Nat) (u : Value) (hx : a.eval x = .slice (some ad) 1 c) (hu : w.cell? ad = some u) (h1 : u.oneCell' = true)
    (h : wpList P ops Q rest (a.put o.dst (.slice (some ⟨g, 0, none⟩) (n + 1) cap)) (w.setCell ⟨g, n, none⟩ u)) : wpList P ops Q (o :: rest) a w := by
  refine wpList_plain hgd fun _ hK => ?_
  have hr := run_append_one (P := P) w t o.type e i ht hi hs1 g n cap f hrow hroom ad c u hu h1
  unfold Oper.wp execOp
  simp only [ho, resolve, invoke, builtin, Sem.run_bind, Sem.run_pure, Result.andThen_ok, List.map_toArray, List.map_cons, List.map_nil, hs, hx, hr]
  exact hK _ _ h

theorem zeroCells_one (z : Value) (n : Nat) : Builtin.zeroCells #[z] n = (List.replicate n z).toArray := by
  apply Array.ext
  · simp [Builtin.zeroCells]
  · intro i h1 h2
    simp [Builtin.zeroCells, Nat.mod_one]
/-- append(v, make([]T, m)...) to a row of one's own, T of one cell -/
theorem run_append_zeros (base : Nat) (t tn ty e : TypeId) (i : TypeInfo) (z : Value) (bytes : Nat) (kq kn : IntKind) (ht : P.underlying t = some (.slice e)) (htn : P.underlying tn = some (.int kn)) (hi : P.info? e = some i) (hz : i.zero = some z)
    (hsize : i.size = 1) (hby : i.bytes = bytes) (hzs : z.cells = #[z]) (hz1 : z.oneCell' = true)
    (v : Value) (n : Nat) (xs : List Value) (hown : w.ownsRow base e 1 v n xs) (m : Nat) (hm : 0 < m) (h63 : n + m ≤ maxLen) (hbytes : (n + m) * bytes ≤ 140737488355328) (hbase : base ≤ w.heap.size) :
    ∃ v' w', (Builtin.append_ #[t, tn] ty #[v, .int kq m]).run P w = .ok v' w' ∧ w'.ownsRow base e 1 v' (n + m) (xs ++ List.replicate m z) ∧ w.grownBy w' v.ownBlock := by
  subst hby
  have hsmall : n + m ≤ 9223372036854775807 := by simp only [maxLen] at h63; omega
  have hlen : (xs ++ List.replicate m z).length = (n + m) * 1 := by rw [List.length_append, hown.1, List.length_replicate]; omega
  have grown : ∀ (old : Nat), old < n + m → ∀ (row : Option Nat),
      (w.drew.alloc (.cells (xs.toArray ++ Builtin.zeroCells z.cells m ++ Builtin.zeroCells z.cells (grownCap w (n + m) old e - (n + m))) e)).ownsRow base e 1
        (.slice (some ⟨w.heap.size, 0, none⟩) (n + m) (grownCap w (n + m) old e)) (n + m) (xs ++ List.replicate m z) ∧
      w.grownBy (w.drew.alloc (.cells (xs.toArray ++ Builtin.zeroCells z.cells m ++ Builtin.zeroCells z.cells (grownCap w (n + m) old e - (n + m))) e)) row := by
    intro old ho row
    have hge := grownCap_ge w (n + m) old e
    have hcm : grownCap w (n + m) old e ≤ maxLen := grownCap_le_maxLen w (n + m) old e h63
    have hx : xs.length = n * 1 := hown.1
    refine ⟨⟨hlen, .inr ⟨w.heap.size, _, _, rfl, hbase, heap_alloc_new w.drew _, hge, hcm, ?_, ?_⟩⟩, ⟨rfl, rfl, rfl, by simp, fun k hk _ => Below.heap_alloc w.drew _ k hk⟩⟩
    · rw [hzs]
      simp only [Array.size_append, List.size_toArray, size_zeroCells, hx]
      simp
      omega
    · rw [hzs, zeroCells_one]
      simp only [Array.toList_append, List.append_assoc]
      rw [← List.append_assoc, ← hlen]
      exact List.take_left
  have hfit : ∀ old, old < n + m → Builtin.nextslicecap (n + m) old * i.bytes ≤ 281474976710656 := fun old ho => growslice_fits ho hbytes
  have h48 : m * i.bytes ≤ 281474976710656 := by
    have : m * i.bytes ≤ (n + m) * i.bytes := Nat.mul_le_mul_right _ (by omega)
    omega
  rcases hown.2 with ⟨rfl, rfl⟩ | ⟨g, cap, cur, rfl, hbg, hg, hnc, hcm, hcs, htake⟩
  · have hx : xs = [] := List.eq_nil_of_length_eq_zero (by simpa using hown.1)
    subst hx
    have hr := Lib.run_append_grow_zeros (P := P) w t tn ty e i z kq kn ht htn hi hz none 0 0 [] (by simp [Builtin.firstCells]) m hm (by omega) (by omega) (by omega) h48 (hfit 0 (by omega))
    have hgr := grown 0 (by omega) (Value.ownBlock (.slice none 0 0))
    exact ⟨_, _, hr, hgr.1, hgr.2⟩
  · by_cases hroom : n + m ≤ cap
    · have hfit2 : n + m ≤ cur.size := by omega
      have hst := run_storeCells_at P g n e (List.replicate m z) 0 cur w hg (by simpa using hfit2) (fun u hu => by rw [(List.mem_replicate.1 hu).2]; exact hz1)
      simp only [Nat.add_zero] at hst
      have hw : IntKind.i64.wrap (m : Int) = m := by rw [IntKind.wrap_i64]; omega
      have hneg : ¬ ((m : Int) < 0) := by omega
      have h48i : ¬ (281474976710656 < (m : Int) * (i.bytes : Int)) := by
        rw [← Int.natCast_mul]
        omega
      have hns : ¬ (m = 0) := by omega
      have hr : (Builtin.append_ #[t, tn] ty #[.slice (some ⟨g, 0, none⟩) n cap, .int kq m]).run P w = .ok (.slice (some ⟨g, 0, none⟩) (n + m) cap) (w.setRow g (cur.toList.take n ++ List.replicate m z ++ cur.toList.drop (n + (List.replicate m z).length)).toArray) := by
        simp [Builtin.append_, run_underlying ht, run_underlying htn, sizeOf, typeInfo, zeroValue, hi, hz, asInt, asIntOf, hw, hneg, h48i, hns, hroom, hsize, hzs, zeroCells_one, Addr.add_lit, hst]
      refine ⟨_, _, hr, ⟨hlen, .inr ⟨g, cap, _, rfl, hbg, setRow_heap w g cur _ e _ hg, hroom, hcm, ?_, ?_⟩⟩, ⟨rfl, rfl, rfl, by simp, fun k _ hk => setRow_other w g k _ (fun e => hk (by simp [Value.ownBlock, e]))⟩⟩
      · simp only [List.size_toArray, List.length_append, List.length_take, List.length_drop, Array.length_toList, List.length_replicate]
        omega
      · have ht2 : cur.toList.take n = xs := by simpa using htake
        rw [ht2, ← hlen]
        exact List.take_left
    · have holds : ∀ j u, xs[j]? = some u → w.cell? ((⟨g, 0, none⟩ : Addr).add j) = some u := hown.cells (g := g) rfl
      have hfc := run_firstCells_some (P := P) w.drew i.size n ⟨g, 0, none⟩ n cap xs (by rw [hsize]; exact hown.1) (fun j u hj => holds j u hj)
      have hr := Lib.run_append_grow_zeros (P := P) w t tn ty e i z kq kn ht htn hi hz (some ⟨g, 0, none⟩) n cap xs hfc m hm (by omega) (by omega) (by omega) h48 (hfit cap (by omega))
      have hgr := grown cap (by omega) (Value.ownBlock (.slice (some ⟨g, 0, none⟩) n cap))
      exact ⟨_, _, hr, hgr.1, hgr.2⟩
theorem wpList_append_zeros (base : Nat) {ops : Array Oper} {rest : List Oper} {o : Oper} {a : Act} {Q : Exit → Act → World → Prop} (hgd : o.guard = none) (s x : Operand) (t tn : TypeId)
    (ho : o.op = .call { callee := .builtin .append, args := #[s, x], argTypes := #[t, tn] }) (e : TypeId) (i : TypeInfo) (z : Value) (bytes : Nat) (kq kn : IntKind) (ht : P.underlying t = some (.slice e)) (htn : P.underlying tn = some (.int kn)) (hi : P.info? e = some i) (hz : i.zero = some z)
    (hsize : i.size = 1) (hby : i.bytes = bytes) (hzs : z.cells = #[z]) (hz1 : z.oneCell' = true)
    (v : Value) (n : Nat) (xs : List Value) (hown : w.ownsRow base e 1 v n xs) (m : Nat) (hm : 0 < m) (h63 : n + m ≤ maxLen) (hbytes : (n + m) * bytes ≤ 140737488355328) (hbase : base ≤ w.heap.size)
    (hs : a.eval s = v) (hx : a.eval x = .int kq m)
    (h : ∀ v' w', w'.ownsRow base e 1 v' (n + m) (xs ++ List.replicate m z) → w.grownBy w' v.ownBlock → wpList P ops Q rest (a.put o.dst v') w') : wpList P ops Q (o :: rest) a w := by
  refine wpList_plain hgd fun _ hK => ?_
  obtain ⟨v', w', hr, h1, h2⟩ := run_append_zeros (P := P) w base t tn o.type e i z bytes kq kn ht htn hi hz hsize hby hzs hz1 v n xs hown m hm h63 hbytes hbase
  unfold Oper.wp execOp
  simp only [ho, resolve, invoke, builtin, Sem.run_bind, Sem.run_pure, Result.andThen_ok, List.map_toArray, List.map_cons, List.map_nil, hs, hx, hr]
  exact hK _ _ (h v' w' h1 h2)
end
end Go.Proofs.YtaommipcdcncnaaDoor.kit
