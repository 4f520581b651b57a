/-
  The reference's state in memory: two maps, what waits, what was answered.
-/
import Derived.Test.YthjjchlibbheaaaMapF
namespace Go.Proofs.Ythjjchlibbheaaa.drive
open Go.ChangeShapes Go.WideShapes Go.ChangeAt Go.RowKit Go.Proofs.Ythjjchlibbheaaa.kit Go.Deep Go.Maps
set_option linter.unusedVariables false
theorem flat4_len (f : Nat → Value × Value × Value × Value) : ∀ n, ((List.range n).flatMap fun i => [(f i).1, (f i).2.1, (f i).2.2.1, (f i).2.2.2]).length = n * 4
  | 0 => rfl
  | n + 1 => by rw [List.range_succ, List.flatMap_append, List.length_append, flat4_len f n]; simp; omega
theorem flat4_at (f : Nat → Value × Value × Value × Value) : ∀ n i, i < n → ((List.range n).flatMap fun i => [(f i).1, (f i).2.1, (f i).2.2.1, (f i).2.2.2])[i * 4]? = some (f i).1 ∧ ((List.range n).flatMap fun i => [(f i).1, (f i).2.1, (f i).2.2.1, (f i).2.2.2])[i * 4 + 1]? = some (f i).2.1 ∧ ((List.range n).flatMap fun i => [(f i).1, (f i).2.1, (f i).2.2.1, (f i).2.2.2])[i * 4 + 2]? = some (f i).2.2.1 ∧ ((List.range n).flatMap fun i => [(f i).1, (f i).2.1, (f i).2.2.1, (f i).2.2.2])[i * 4 + 3]? = some (f i).2.2.2
  | 0, i, h => absurd h (Nat.not_lt_zero i)
  | n + 1, i, h => by
    rw [List.range_succ, List.flatMap_append]
    have hl := flat4_len f n
    by_cases e : i < n
    · rw [List.getElem?_append_left (by omega), List.getElem?_append_left (by omega), List.getElem?_append_left (by omega), List.getElem?_append_left (by omega)]
      exact flat4_at f n i e
    · have : i = n := by omega
      subst this
      rw [List.getElem?_append_right (by omega), List.getElem?_append_right (by omega), List.getElem?_append_right (by omega), List.getElem?_append_right (by omega), hl]
      simp
/-- what waits, as jobs -/
def jbL (ws : List (Nat × (Nat → Nat))) (dv : Nat → Value) : List Value := (List.range ws.length).flatMap fun i => [.int .i64 0, .int .i64 (ws.getD i noP).1, .int .i64 0, dv i]
theorem jbL_at (ws : List (Nat × (Nat → Nat))) (dv : Nat → Value) {i : Nat} (h : i < ws.length) : (jbL ws dv)[i * 4]? = some (.int .i64 0) ∧ (jbL ws dv)[i * 4 + 1]? = some (.int .i64 (ws.getD i noP).1) ∧ (jbL ws dv)[i * 4 + 2]? = some (.int .i64 0) ∧ (jbL ws dv)[i * 4 + 3]? = some (dv i) :=
  flat4_at (fun i => (.int .i64 0, .int .i64 (ws.getD i noP).1, .int .i64 0, dv i)) ws.length i h
theorem jbL_more (ws : List (Nat × (Nat → Nat))) (dv : Nat → Value) (q : Nat × (Nat → Nat)) (v : Value) :
    jbL (ws ++ [q]) (fun i => if i = ws.length then v else dv i) = jbL ws dv ++ [.int .i64 0, .int .i64 q.1, .int .i64 0, v] := by
  unfold jbL
  rw [List.length_append, List.length_singleton, List.range_succ, List.flatMap_append]
  congr 1
  · rw [List.flatMap_def, List.flatMap_def]
    congr 1
    apply List.map_congr_left
    intro i hi
    have hi := List.mem_range.1 hi
    simp [List.getD, List.getElem?_append_left hi, show i ≠ ws.length by omega]
  · simp [List.getD]
theorem map_ne_blk {w : World} {b n a : Nat} {z : Value} {f : Nat → Value} {t : TypeId} {cs : Array Value} (h : MapF w b n z f) (h' : Blk w a t cs) : a ≠ b := fun e => by
  subst e
  obtain ⟨es, c, h1⟩ := h.obj
  unfold Blk at h'
  rw [h'] at h1
  cases h1
theorem map_ne_row {w : World} {b n a m : Nat} {z : Value} {f : Nat → Value} {t : TypeId} {k : IntKind} {F : Nat → Nat} (h : MapF w b n z f) (h' : RowK t k w a m F) : a ≠ b := by
  obtain ⟨cs, hc, _⟩ := h'
  exact map_ne_blk (t := t) h hc
theorem map_ne_own {w : World} {b n base s m : Nat} {z : Value} {f : Nat → Value} {e : TypeId} {v : Value} {xs : List Value} (h : MapF w b n z f) (h' : w.ownsRow base e s v m xs) : v.ownBlock ≠ some b := by
  intro he
  rcases h'.2 with ⟨h0, _⟩ | ⟨g', cap, cur, h0, _, hg0, _⟩
  · rw [h0] at he; cases he
  · rw [h0] at he
    have : g' = b := by simpa [Value.ownBlock] using he
    subst this
    exact map_ne_blk (t := e) h hg0 rfl
theorem map_lt {w : World} {b n : Nat} {z : Value} {f : Nat → Value} (h : MapF w b n z f) : b < w.heap.size := by
  obtain ⟨es, c, h1⟩ := h.obj
  exact (Array.getElem?_eq_some_iff.1 h1).1
structure R0 (w : World) (n i : Nat) (s : DS) (Q : Nat → Int × Option (Nat → Nat)) (pb bb np : Nat) (fp fb : Nat → Value) (wv : Value) (dv : Nat → Value) (o : Value) (ov : Nat → Value) (wx : World) : Prop where
  hp : MapF wx pb np (.slice none 0 0) fp
  hb : MapF wx bb np (.int .i64 0) fb
  pd : ∀ k, k < n → Dat wx (fp k) (s.pl k)
  bd : ∀ k, k < n → fb k = .int .i64 (if s.br k = true then 1 else 0)
  wo : wx.ownsRow w.heap.size 93 4 wv s.ws.length (jbL s.ws dv)
  wd : ∀ k, k < s.ws.length → Sd wx (dv k) (s.ws.getD k noP).2
  wi : ∀ k, k < s.ws.length → (s.ws.getD k noP).1 < n
  oo : wx.ownsRow w.heap.size 95 2 o i (rpL Q ov i)
  od : ∀ k, k < i → Dat wx (ov k) (Q k).2
  nn : New w wx
  lo : w.heap.size ≤ pb ∧ w.heap.size ≤ bb ∧ pb ≠ bb
section
variable {w wx wy : World} {n i : Nat} {s : DS} {Q : Nat → Int × Option (Nat → Nat)} {pb bb np : Nat} {fp fb : Nat → Value} {wv : Value} {dv : Nat → Value} {o : Value} {ov : Nat → Value}
theorem R0.new (h : R0 w n i s Q pb bb np fp fb wv dv o ov wx) (hn : New wx wy) : R0 w n i s Q pb bb np fp fb wv dv o ov wy :=
  ⟨h.hp.new hn, h.hb.new hn, fun k hk => (h.pd k hk).new hn, h.bd, own_new h.wo hn, fun k hk => (h.wd k hk).new hn, h.wi, own_new h.oo hn, fun k hk => (h.od k hk).new hn, h.nn.next hn, h.lo⟩
/-- a block that is none of its own is written -/
theorem R0.far (h : R0 w n i s Q pb bb np fp fb wv dv o ov wx) {t : TypeId} {B : Nat} {cs : Array Value} (hB : Blk wx B t cs) (ht1 : t ≠ 93) (ht2 : t ≠ 5) (ho : o.ownBlock ≠ some B) (hlo : w.heap.size ≤ B) (k : Nat) (v : Value) : R0 w n i s Q pb bb np fp fb wv dv o ov (wx.setCell ⟨B, k, none⟩ v) := by
  have hg := grown_set wx B k v
  have hu : ∀ b f, RowK 5 .u8 wx b 128 f → (some B : Option Nat) ≠ some b := fun b f hr e => RowK.ne_blk hr hB (Ne.symm ht2) (Option.some.inj e)
  exact ⟨h.hp.grown hg fun e => map_ne_blk h.hp hB (Option.some.inj e).symm, h.hb.grown hg fun e => map_ne_blk h.hb hB (Option.some.inj e).symm, fun k hk => (h.pd k hk).grown hg hu, h.bd, h.wo.kept hg (.inr (own_blk' h.wo hB (Ne.symm ht1))), fun k hk => (h.wd k hk).grown hg hu, h.wi, h.oo.kept hg (.inr ho), fun k hk => (h.od k hk).grown hg hu, h.nn.grown hg fun r e => by cases e; exact hlo, h.lo⟩
theorem R0.setP (h : R0 w n i s Q pb bb np fp fb wv dv o ov wx) {k : Nat} {v : Value} {F : Nat → Nat} (hg : wx.grownBy wy (some pb)) (hm : MapF wy pb (np + 1) (.slice none 0 0) (fun j => if j = k then v else fp j)) (hv : Sd wx v F) :
    R0 w n i { s with pl := fun j => if j = k then some F else s.pl j } Q pb bb (np + 1) (fun j => if j = k then v else fp j) fb wv dv o ov wy := by
  have hu : ∀ b f, RowK 5 .u8 wx b 128 f → (some pb : Option Nat) ≠ some b := fun b f hr e => map_ne_row h.hp hr (Option.some.inj e).symm
  refine ⟨hm, (h.hb.grown hg fun e => h.lo.2.2 (Option.some.inj e).symm).mono (Nat.le_succ _), fun j hj => ?_, h.bd, h.wo.kept hg (.inr (map_ne_own h.hp h.wo)), fun k hk => (h.wd k hk).grown hg hu, h.wi, h.oo.kept hg (.inr (map_ne_own h.hp h.oo)), fun k hk => (h.od k hk).grown hg hu, h.nn.grown hg fun r e => by cases e; exact h.lo.1, h.lo⟩
  by_cases e : j = k
  · simp only [if_pos e]; exact Sd.grown hv hg hu
  · simp only [if_neg e]; exact (h.pd j hj).grown hg hu
theorem R0.setB (h : R0 w n i s Q pb bb np fp fb wv dv o ov wx) {k : Nat} {b : Bool} (hg : wx.grownBy wy (some bb)) (hm : MapF wy bb (np + 1) (.int .i64 0) (fun j => if j = k then .int .i64 (if b = true then 1 else 0) else fb j)) :
    R0 w n i { s with br := fun j => if j = k then b else s.br j } Q pb bb (np + 1) fp (fun j => if j = k then .int .i64 (if b = true then 1 else 0) else fb j) wv dv o ov wy := by
  have hu : ∀ b f, RowK 5 .u8 wx b 128 f → (some bb : Option Nat) ≠ some b := fun b f hr e => map_ne_row h.hb hr (Option.some.inj e).symm
  refine ⟨(h.hp.grown hg fun e => h.lo.2.2 (Option.some.inj e)).mono (Nat.le_succ _), hm, fun j hj => (h.pd j hj).grown hg hu, fun j hj => ?_, h.wo.kept hg (.inr (map_ne_own h.hb h.wo)), fun k hk => (h.wd k hk).grown hg hu, h.wi, h.oo.kept hg (.inr (map_ne_own h.hb h.oo)), fun k hk => (h.od k hk).grown hg hu, h.nn.grown hg fun r e => by cases e; exact h.lo.2.1, h.lo⟩
  by_cases e : j = k
  · simp only [if_pos e]
  · simp only [if_neg e]; exact h.bd j hj
theorem R0.wait (h : R0 w n i s Q pb bb np fp fb wv dv o ov wx) {q : Nat × (Nat → Nat)} {v v' : Value} (hg : wx.grownBy wy wv.ownBlock) (hw : wy.ownsRow w.heap.size 93 4 v' (s.ws.length + 1) (jbL s.ws dv ++ [.int .i64 0, .int .i64 q.1, .int .i64 0, v])) (hv : Sd wx v q.2) (hq : q.1 < n) :
    R0 w n i { s with ws := s.ws ++ [q] } Q pb bb np fp fb v' (fun j => if j = s.ws.length then v else dv j) o ov wy := by
  have hu : ∀ b f, RowK 5 .u8 wx b 128 f → wv.ownBlock ≠ some b := fun b f hr => hr.ne_own h.wo (by decide)
  refine ⟨h.hp.grown hg (Ne.symm (map_ne_own h.hp h.wo)), h.hb.grown hg (Ne.symm (map_ne_own h.hb h.wo)), fun j hj => (h.pd j hj).grown hg hu, h.bd, ?_, fun k hk => ?_, fun k hk => ?_, own_apart' h.oo h.wo (by decide) hg, fun k hk => (h.od k hk).grown hg hu, h.nn.grown hg fun r e => (h.wo.lt r e).1, h.lo⟩
  · show wy.ownsRow _ _ _ _ (s.ws ++ [q]).length (jbL (s.ws ++ [q]) _)
    rw [jbL_more, List.length_append, List.length_singleton]
    exact hw
  · by_cases e : k = s.ws.length
    · subst e
      simp only [if_true]
      have : (s.ws ++ [q]).getD s.ws.length noP = q := by simp [List.getD]
      show Sd wy v ((s.ws ++ [q]).getD s.ws.length noP).2
      rw [this]
      exact Sd.grown hv hg hu
    · have hk2 : k < s.ws.length := by
        have : k < (s.ws ++ [q]).length := hk
        rw [List.length_append, List.length_singleton] at this
        omega
      simp only [if_neg e]
      have : (s.ws ++ [q]).getD k noP = s.ws.getD k noP := by simp [List.getD, List.getElem?_append_left hk2]
      show Sd wy (dv k) ((s.ws ++ [q]).getD k noP).2
      rw [this]
      exact (h.wd k hk2).grown hg hu
  · show ((s.ws ++ [q]).getD k noP).1 < n
    by_cases hk2 : k < s.ws.length
    · have : (s.ws ++ [q]).getD k noP = s.ws.getD k noP := by simp [List.getD, List.getElem?_append_left hk2]
      rw [this]
      exact h.wi k hk2
    · have h5 : k < (s.ws ++ [q]).length := hk
      rw [List.length_append, List.length_singleton] at h5
      have : k = s.ws.length := by omega
      subst this
      have : (s.ws ++ [q]).getD s.ws.length noP = q := by simp [List.getD]
      rw [this]
      exact hq
theorem R0.idle (h : R0 w n i s Q pb bb np fp fb wv dv o ov wx) : R0 w n i { s with ws := [] } Q pb bb np fp fb (.slice none 0 0) dv o ov wx :=
  ⟨h.hp, h.hb, h.pd, h.bd, World.ownsRow_nil _ _ _ _, fun k hk => absurd hk (Nat.not_lt_zero k), fun k hk => absurd hk (Nat.not_lt_zero k), h.oo, h.od, h.nn, h.lo⟩
theorem R0.dies (h : R0 w n i s Q pb bb np fp fb wv dv o ov wx) : R0 w n i { s with dead := true } Q pb bb np fp fb wv dv o ov wx :=
  ⟨h.hp, h.hb, h.pd, h.bd, h.wo, h.wd, h.wi, h.oo, h.od, h.nn, h.lo⟩
theorem R0.mono (h : R0 w n i s Q pb bb np fp fb wv dv o ov wx) {np' : Nat} (hn : np ≤ np') : R0 w n i s Q pb bb np' fp fb wv dv o ov wx :=
  ⟨h.hp.mono hn, h.hb.mono hn, h.pd, h.bd, h.wo, h.wd, h.wi, h.oo, h.od, h.nn, h.lo⟩
/-- all is laid afresh -/
theorem R0.fresh (h : R0 w n i s Q pb bb np fp fb wv dv o ov wx) : R0 w n i DS.fresh Q wx.heap.size (wx.heap.size + 1) np (fun _ => .slice none 0 0) (fun _ => .int .i64 0) (.slice none 0 0) dv o ov ((wx.alloc (.map #[] 0)).alloc (.map #[] 0)) := by
  have hn : New wx ((wx.alloc (.map #[] 0)).alloc (.map #[] 0)) := ((New.refl wx).alloc _).alloc _
  have hs := h.nn.size
  refine ⟨((MapF.made wx (.slice none 0 0)).new ((New.refl _).alloc _)).mono (Nat.zero_le _), ?_, fun k hk => rfl, fun k hk => rfl, World.ownsRow_nil _ _ _ _, fun k hk => absurd hk (Nat.not_lt_zero k), fun k hk => absurd hk (Nat.not_lt_zero k), own_new h.oo hn, fun k hk => (h.od k hk).new hn, h.nn.next hn, hs, by omega, by omega⟩
  have := (MapF.made (wx.alloc (.map #[] 0)) (.int .i64 0)).mono (Nat.zero_le np)
  simpa using this
theorem R0.start (w : World) (n : Nat) (Q : Nat → Int × Option (Nat → Nat)) : R0 w n 0 DS.fresh Q w.heap.size (w.heap.size + 1) 0 (fun _ => .slice none 0 0) (fun _ => .int .i64 0) (.slice none 0 0) (fun _ => .slice none 0 0) (.slice none 0 0) (fun _ => .slice none 0 0) ((w.alloc (.map #[] 0)).alloc (.map #[] 0)) := by
  have hn : New w ((w.alloc (.map #[] 0)).alloc (.map #[] 0)) := ((New.refl w).alloc _).alloc _
  refine ⟨(MapF.made w (.slice none 0 0)).new ((New.refl _).alloc _), ?_, fun k hk => rfl, fun k hk => rfl, World.ownsRow_nil _ _ _ _, fun k hk => absurd hk (Nat.not_lt_zero k), fun k hk => absurd hk (Nat.not_lt_zero k), World.ownsRow_nil _ _ _ _, fun k hk => absurd hk (Nat.not_lt_zero k), hn, Nat.le_refl _, by omega, by omega⟩
  have := MapF.made (w.alloc (.map #[] 0)) (.int .i64 0)
  simpa using this
/-- one answer more -/
theorem R0.out (h : R0 w n i s Q pb bb np fp fb wv dv o ov wx) {v' rv : Value} (hg : wx.grownBy wy o.ownBlock) (hw : wy.ownsRow w.heap.size 95 2 v' (i + 1) (rpL Q ov i ++ [.int .i64 (Q i).1, rv])) (hv : Dat wx rv (Q i).2) :
    R0 w n (i + 1) s Q pb bb np fp fb wv dv v' (fun j => if j = i then rv else ov j) wy := by
  have hu : ∀ b f, RowK 5 .u8 wx b 128 f → o.ownBlock ≠ some b := fun b f hr => hr.ne_own h.oo (by decide)
  refine ⟨h.hp.grown hg (Ne.symm (map_ne_own h.hp h.oo)), h.hb.grown hg (Ne.symm (map_ne_own h.hb h.oo)), fun j hj => (h.pd j hj).grown hg hu, h.bd, own_apart' h.wo h.oo (by decide) hg, fun k hk => (h.wd k hk).grown hg hu, h.wi, by rw [rpL_more]; exact hw, fun k hk => ?_, h.nn.grown hg fun r e => (h.oo.lt r e).1, h.lo⟩
  by_cases e : k = i
  · subst e
    simp only [if_true]
    exact hv.grown hg hu
  · simp only [if_neg e]
    exact (h.od k (by omega)).grown hg hu
end
/-- 128 bytes more, appended to nothing -/
theorem copy_run (b c : Nat) (off : Nat) (F : Nat → Nat) (w : World) (ty : TypeId) (h : ∀ j, j < 128 → w.cell? ⟨b, off + j, none⟩ = some (.int .u8 (F j : Nat))) :
    ∃ g cap w', (Builtin.append_ #[79, 79] ty #[.slice none 0 0, .slice (some ⟨b, off, none⟩) 128 c]).run Try.prog w = .ok (.slice (some ⟨g, 0, none⟩) 128 cap) w' ∧ Sd w' (.slice (some ⟨g, 0, none⟩) 128 cap) F ∧ New w w' := by
  obtain ⟨i0, hi0, hz0, hz1, hz2⟩ := info_parts infoU8
  obtain ⟨v', w', hr, ho, hg, _, _⟩ := run_append_own_at (P := Try.prog) w w.heap.size 79 ty 5 i0 _ 1 1 Try.underlying79 hi0 hz0 hz1 hz2 rfl (by decide) (.slice none 0 0) 0 [] (World.ownsRow_nil _ _ _ _) ⟨b, off, none⟩ 128 c (numL .u8 F 128) (by rw [numL_len]) (fun j u hu => numL_src h j u hu) (numL_one .u8 F 128) (by unfold maxLen; omega) (by omega) (Nat.le_refl _)
  rw [Nat.zero_add, List.nil_append] at ho
  obtain ⟨g, cap, rfl, h1, h2⟩ := ho.form (by omega)
  have hrow := RowK.of_own ho
  obtain ⟨_, _, he, hle, hlm, _⟩ := own_open ho
  cases he
  exact ⟨g, cap, w', hr, ⟨g, cap, rfl, hle, hlm, hrow⟩, ⟨hg.os, hg.tape, hg.output, hg.size, fun k hk => hg.block k hk (by simp [Value.ownBlock])⟩⟩
theorem wpList_append_run {P : Program} {ops : Array Oper} {rest : List Oper} {o : Oper} {a : Act} {Q : Exit → Act → World → Prop} {w w' : World} {v : Value} (hgd : o.guard = none) (s x : Operand) (t : TypeId)
    (ho : o.op = .call { callee := .builtin .append, args := #[s, x], argTypes := #[t, t] }) (sv xv : Value) (hs : a.eval s = sv) (hx : a.eval x = xv) (hr : (Builtin.append_ #[t, t] o.type #[sv, xv]).run P w = .ok v w')
    (h : wpList P ops Q rest (a.put o.dst v) w') : wpList P ops Q (o :: rest) a w :=
  wpList_plain hgd fun K hK => by
    unfold Oper.wp execOp
    simp only [ho, resolve, invoke, builtin, Sem.run_bind, Sem.run_pure, Result.andThen_ok, List.map_toArray, List.map_cons, List.map_nil, hs, hx, hr]
    exact hK _ _ h
theorem step_append_run {P : Program} {ops : Array Oper} {o : Oper} {a : Act} {K : Act → World → Prop} {Q : Exit → Act → World → Prop} {E : Prop} {w w' : World} {v : Value} (hgd : o.guard = none) (s x : Operand) (t : TypeId)
    (ho : o.op = .call { callee := .builtin .append, args := #[s, x], argTypes := #[t, t] }) (sv xv : Value) (hs : a.eval s = sv) (hx : a.eval x = xv) (hr : (Builtin.append_ #[t, t] o.type #[sv, xv]).run P w = .ok v w')
    (h : K (a.put o.dst v) w') : if Region.wanted o (yielded ops a.tmps) = true then Oper.wp P o a w K Q else E := by
  have hw : Region.wanted o (yielded ops a.tmps) = true := by simp [Region.wanted, hgd]
  rw [if_pos hw]
  unfold Oper.wp execOp
  simp only [ho, resolve, invoke, builtin, Sem.run_bind, Sem.run_pure, Result.andThen_ok, List.map_toArray, List.map_cons, List.map_nil, hs, hx, hr]
  exact h
theorem step_mapUpdate_run {P : Program} {ops : Array Oper} {o : Oper} {a : Act} {K : Act → World → Prop} {Q : Exit → Act → World → Prop} {E : Prop} {w w' : World} (hgd : o.guard = none) (m x v : Operand) (t : TypeId)
    (hop : o.op = Op.mapUpdate t m x v) (mv key val : Value) (hm : a.eval m = mv) (hx : a.eval x = key) (hv : a.eval v = val) (hrun : (Instr.mapUpdate t mv key val).run P w = .ok () w')
    (h : K (a.put o.dst undef) w') : if Region.wanted o (yielded ops a.tmps) = true then Oper.wp P o a w K Q else E := by
  have hw : Region.wanted o (yielded ops a.tmps) = true := by simp [Region.wanted, hgd]
  rw [if_pos hw]
  unfold Oper.wp
  simp [execOp, hop, hm, hx, hv, hrun, Result.andThen]
  exact h
end Go.Proofs.Ythjjchlibbheaaa.drive
