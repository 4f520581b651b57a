/-
  The reference's keeper in memory: who lives, and a map of lists; hasInt, needed, all.
-/
import Derived.Test.YtiffgeglbafenaaSnapPlay
import Derived.Maps.Own
import Derived.Maps.OwnOps
import Derived.Maps.OwnSet
import Derived.Maps.Views
import Derived.Maps.Range
import Derived.Maps.RangeWalk
namespace Go.Proofs.Ytiffgeglbafenaa.snap
open Go.ChangeShapes Go.WideShapes Go.ChangeAt Go.RowKit Go.Proofs.Ytiffgeglbafenaa.kit Go.Deep Go.Maps
set_option linter.unusedVariables false
set_option maxRecDepth 100000
abbrev tokR (v : Value) : Option (DataW Value × List MemPlace) := some (.held v, [])
theorem keyed : Keyed Try.prog 3 := int_keyed Try.underlying3
/-- a number that an int holds -/
def I64 (z : Int) : Prop := -9223372036854775808 ≤ z ∧ z ≤ 9223372036854775807
theorem I64.wf {z : Int} (h : I64 z) : (Lit.int .i64 z).wf = true := by
  have h1 : IntKind.i64.min = -9223372036854775808 := rfl
  have h2 : IntKind.i64.max = 9223372036854775807 := rfl
  simp only [Lit.wf, Bool.and_eq_true, decide_eq_true_eq]
  unfold I64 at h
  omega
theorem I64.key {z : Int} (h : I64 z) : keyOf Try.prog 3 (.int .i64 z) = some (.int .i64 z) := keyOf_int_mk Try.underlying3 h.wf
theorem lit_ne {a b : Int} (h : a ≠ b) : (Lit.int .i64 a) ≠ .int .i64 b := fun e => by injection e with _ e; exact h e
/-- block b is a map of m lists by number -/
def SM (w : World) (b c m : Nat) (num : Nat → Nat) (mv : Nat → Value) : Prop :=
  ∃ D : DataW Value, w.ownsMap Try.prog 3 tokR b c D ∧ size D = m ∧ (∀ k : Int, has D (.int .i64 k) = true ↔ ∃ j, j < m ∧ (num j : Int) = k) ∧ ∀ j, j < m → ∀ z, D.atKey (.int .i64 (num j : Int)) z = .held (mv j)
section
variable {w w' : World} {b c m : Nat} {num : Nat → Nat} {mv : Nat → Value}
theorem SM.obj (h : SM w b c m num mv) : ∃ es k, w.heap[b]? = some (.map es k) := by
  obtain ⟨D, ⟨es, k, h1, _⟩, _⟩ := h
  exact ⟨es, k, h1⟩
theorem SM.made (w : World) (num : Nat → Nat) (mv : Nat → Value) : SM (w.alloc (.map #[] 0)) w.heap.size 0 0 num mv :=
  ⟨.map [], World.ownsMap_made w _ _ _, rfl, fun k => by
    constructor
    · intro h; cases h
    · rintro ⟨j, hj, _⟩; exact absurd hj (Nat.not_lt_zero j), fun j hj => absurd hj (Nat.not_lt_zero j)⟩
theorem SM.grown (h : SM w b c m num mv) {row : Option Nat} (hg : w.grownBy w' row) (hr : some b ≠ row) : SM w' b c m num mv := by
  obtain ⟨D, h1, h2⟩ := h
  exact ⟨D, h1.kept hg hr, h2⟩
theorem SM.new (h : SM w b c m num mv) (hn : New w w') : SM w' b c m num mv := h.grown (row := none) ⟨hn.os, hn.tape, hn.output, hn.size, fun k hk _ => hn.block k hk⟩ (by simp)
theorem SM.lt (h : SM w b c m num mv) : b < w.heap.size := by
  obtain ⟨es, k, h1⟩ := h.obj
  exact (Array.getElem?_eq_some_iff.1 h1).1
theorem SM.alt (h : SM w b c m num mv) {K : Nat → Prop} (ha : Alt K w w') (hK : ¬ K b) : SM w' b c m num mv := by
  obtain ⟨D, ⟨es, k, h1, h2⟩, h3⟩ := h
  exact ⟨D, ⟨es, k, (ha.same b (Array.getElem?_eq_some_iff.1 h1).1 hK).trans h1, h2⟩, h3⟩
theorem SM.len (h : SM w b c m num mv) (ty : TypeId) : (Builtin.len_ #[57] ty #[.map (some b)]).run Try.prog w = .ok (.int .i64 (m : Nat)) w := by
  obtain ⟨D, h1, h2, _⟩ := h
  rw [h1.len Try.underlying57 ty, h2]
theorem zeroL (w : World) : (zeroValue 33).run Try.prog w = .ok (.slice none 0 0) w := by kernel_rfl
theorem SM.look (h : SM w b c m num mv) {z : Int} (hz : I64 z) : ∃ v, (Instr.lookup 57 (.map (some b)) (.int .i64 z) true).run Try.prog w = .ok (.tuple #[v, .bool (find num z m).isSome]) w := by
  obtain ⟨D, h1, h2, h3, h4⟩ := h
  obtain ⟨v, ps, hr, _⟩ := h1.look_ok keyed Try.underlying57 (zeroL w) (zd := .held (.slice none 0 0)) (zp := []) rfl hz.key
  refine ⟨v, ?_⟩
  rw [hr]
  have e : has D (.int .i64 z) = (find num z m).isSome := by
    rw [Bool.eq_iff_iff, h3 z]
    constructor
    · rintro ⟨j, hj, he⟩
      cases hf : find num z m with
      | none => exact absurd he (find_none hf j hj)
      | some i => rfl
    · intro hi
      cases hf : find num z m with
      | none => rw [hf] at hi; cases hi
      | some i => exact ⟨i, (find_some hf).1, (find_some hf).2.1⟩
  rw [e]
theorem SM.put (h : SM w b c m num mv) (hc : c < maxLen) {x : Nat} (hx : I64 (x : Int)) (hnew : ∀ j, j < m → num j < x) (v : Value) :
    ∃ w', (Instr.mapUpdate 57 (.map (some b)) (.int .i64 (x : Int)) v).run Try.prog w = .ok () w' ∧ SM w' b (c + 1) (m + 1) (upd num m x) (upd mv m v) ∧ w.grownBy w' (some b) := by
  obtain ⟨D, h1, h2, h3, h4⟩ := h
  obtain ⟨w', hr, h5, hg⟩ := h1.update keyed Try.underlying57 hc hx.key (val := v) (d := .held v) (ps := []) rfl
  have hno : has D (.int .i64 (x : Int)) = false := by
    cases hh : has D (.int .i64 (x : Int)) with
    | false => rfl
    | true =>
      obtain ⟨j, hj, he⟩ := (h3 _).1 hh
      have := hnew j hj
      omega
  refine ⟨w', hr, ⟨_, h5, ?_, fun k => ?_, fun j hj z => ?_⟩, hg⟩
  · rw [size_put (h1.tidy keyed), hno, h2]
    rfl
  · by_cases e : k = x
    · subst e
      rw [has_put_same h1.isMap (by constructor)]
      exact ⟨fun _ => ⟨m, by omega, by rw [upd_same]⟩, fun _ => rfl⟩
    · rw [has_put_other (lit_ne e), h3 k]
      constructor
      · rintro ⟨j, hj, he⟩
        exact ⟨j, by omega, by rw [upd_ne _ _ (by omega)]; exact he⟩
      · rintro ⟨j, hj, he⟩
        by_cases ej : j = m
        · subst ej
          rw [upd_same] at he
          exact absurd he.symm e
        · rw [upd_ne _ _ ej] at he
          exact ⟨j, by omega, he⟩
  · by_cases ej : j = m
    · subst ej
      rw [upd_same, upd_same]
      exact atKey_put_same h1.isMap (by constructor) _ _
    · rw [upd_ne _ _ ej, upd_ne _ _ ej]
      have := hnew j (by omega)
      rw [atKey_put_other (lit_ne (by omega))]
      exact h4 j (by omega) z
theorem SM.drop (h : SM w b c m num mv) {i : Nat} (hi : i < m) (hx : I64 (num i : Int)) (hinj : ∀ j k, j < k → k < m → num j < num k) (ty : TypeId) :
    ∃ w', (Builtin.delete_ #[57, 3] ty #[.map (some b), .int .i64 (num i : Int)]).run Try.prog w = .ok (.tuple #[]) w' ∧ SM w' b c (m - 1) (cutAt num i) (cutAt mv i) ∧ w.grownBy w' (some b) := by
  obtain ⟨D, h1, h2, h3, h4⟩ := h
  obtain ⟨w', hr, h5, hg⟩ := h1.drop keyed Try.underlying57 hx.key ty
  have hyes : has D (.int .i64 (num i : Int)) = true := (h3 _).2 ⟨i, hi, rfl⟩
  have hne : ∀ j, j < m - 1 → ((cutAt num i j : Nat) : Int) ≠ num i := fun j hj => by
    unfold cutAt
    split
    · have := hinj j i (by omega) hi
      omega
    · have := hinj i (j + 1) (by omega) (by omega)
      omega
  refine ⟨w', hr, ⟨_, h5, ?_, fun k => ?_, fun j hj z => ?_⟩, hg.grown⟩
  · have := size_del (h1.tidy keyed) (k := .int .i64 (num i : Int))
    rw [hyes, h2] at this
    simp at this
    omega
  · by_cases e : k = num i
    · subst e
      rw [has_del_same]
      exact ⟨fun h => by (cases h), fun ⟨j, hj, he⟩ => absurd he (hne j hj)⟩
    · rw [has_del_other (lit_ne e), h3 k]
      constructor
      · rintro ⟨j, hj, he⟩
        have hji : j ≠ i := fun e' => e (by rw [← he, e'])
        by_cases hlt : j < i
        · exact ⟨j, by omega, by unfold cutAt; rw [if_pos hlt]; exact he⟩
        · exact ⟨j - 1, by omega, by unfold cutAt; rw [if_neg (by omega), show j - 1 + 1 = j by omega]; exact he⟩
      · rintro ⟨j, hj, he⟩
        unfold cutAt at he
        split at he
        · exact ⟨j, by omega, he⟩
        · exact ⟨j + 1, by omega, he⟩
  · rw [atKey_del_other (lit_ne (hne j hj))]
    unfold cutAt
    split
    · exact h4 j (by omega) z
    · exact h4 (j + 1) (by omega) z
end
/-- truths as cells -/
def boolL (f : Nat → Bool) (n : Nat) : List Value := (List.range n).map fun i => .bool (f i)
theorem boolL_len (f : Nat → Bool) (n : Nat) : (boolL f n).length = n := by simp [boolL]
theorem boolL_at (f : Nat → Bool) {n i : Nat} (h : i < n) : (boolL f n)[i]? = some (.bool (f i)) := by simp [boolL, h]
theorem boolL_more (f : Nat → Bool) (n : Nat) (x : Bool) : boolL (upd f n x) (n + 1) = boolL f n ++ [.bool x] := by
  unfold boolL
  rw [List.range_succ, List.map_append]
  congr 1
  · apply List.map_congr_left
    intro i hi
    have hi := List.mem_range.1 hi
    rw [upd_ne _ _ (by omega)]
  · simp [upd_same]
theorem boolL_set (f : Nat → Bool) (n i : Nat) (x : Bool) (h : i < n) : (boolL f n).set i (.bool x) = boolL (upd f i x) n := by
  refine list_ext (by rw [List.length_set, boolL_len, boolL_len]) fun k hk => ?_
  rw [List.length_set, boolL_len] at hk
  rw [List.getElem?_set, boolL_at _ hk]
  by_cases e : i = k
  · subst e
    rw [if_pos rfl, if_pos (by rw [boolL_len]; exact hk), boolL_at _ hk, upd_same]
  · rw [if_neg e, boolL_at _ hk, upd_ne _ _ (Ne.symm e)]
/-- the reference's keeper -/
structure Nd (base nb mb c : Nat) (s : KS) (lv : Value) (mv : Nat → Value) (w : World) : Prop where
  bk : Blk w nb 60 #[lv, .map (some mb), .int .i64 (s.kept : Nat)]
  lo : w.ownsRow base 4 1 lv s.n (boolL s.lives s.n)
  mp : SM w mb c s.m s.num mv
  ll : ∀ i, i < s.m → OwnI w base (mv i) (s.lst i)
  ge : base ≤ nb ∧ base ≤ mb
/-- its blocks that are written -/
def NK (nb mb : Nat) (lv : Value) (k : Nat) : Prop := k = nb ∨ k = mb ∨ lv.ownBlock = some k
section
variable {base nb mb c : Nat} {s : KS} {lv : Value} {mv : Nat → Value} {w w' : World}
theorem Nd.alt (h : Nd base nb mb c s lv mv w) {K : Nat → Prop} (ha : Alt K w w') (h1 : ∀ k, NK nb mb lv k → ¬ K k) (h2 : ∀ i g, i < s.m → (mv i).ownBlock = some g → ¬ K g) : Nd base nb mb c s lv mv w' :=
  ⟨ha.blk h.bk (h1 _ (.inl rfl)), ha.own h.lo fun g hg => h1 _ (.inr (.inr hg)), h.mp.alt ha (h1 _ (.inr (.inl rfl))), fun i hi => ha.own (h.ll i hi) fun g hg => h2 i g hi hg, h.ge⟩
theorem Nd.new (h : Nd base nb mb c s lv mv w) (hn : New w w') : Nd base nb mb c s lv mv w' := h.alt (K := fun _ => False) (Alt.of_new hn) (fun _ _ f => f) fun _ _ _ _ f => f
theorem Nd.lt (h : Nd base nb mb c s lv mv w) {k : Nat} (hk : NK nb mb lv k) : base ≤ k ∧ k < w.heap.size := by
  rcases hk with rfl | rfl | hk
  · exact ⟨h.ge.1, h.bk.lt⟩
  · exact ⟨h.ge.2, h.mp.lt⟩
  · exact h.lo.lt _ hk
/-- an own row of another type is apart from what is written -/
theorem Nd.apart (h : Nd base nb mb c s lv mv w) {b2 e2 z2 n2 : Nat} {v : Value} {x : List Value} (ho : w.ownsRow b2 e2 z2 v n2 x) (h1 : e2 ≠ 60) (h2 : e2 ≠ 4) {g : Nat} (hg : NK nb mb lv g) : v.ownBlock ≠ some g := by
  rcases hg with rfl | rfl | hg
  · exact own_ne_blk ho h.bk h1
  · intro e
    obtain ⟨es, k, hm⟩ := h.mp.obj
    rcases ho.2 with ⟨h0, _⟩ | ⟨g', cap, cur, h0, _, hg0, _⟩
    · rw [h0] at e; cases e
    · rw [h0] at e
      have : g' = g := by simpa [Value.ownBlock] using e
      subst this
      rw [hm] at hg0
      cases hg0
  · exact fun e => own_ne2 ho h.lo h2 e hg
theorem Nd.apart_blk (h : Nd base nb mb c s lv mv w) {t : TypeId} {cs : Array Value} {p : Nat} (hp : Blk w p t cs) (h1 : t ≠ 60) (h2 : t ≠ 4) : ¬ NK nb mb lv p := by
  rintro (rfl | rfl | hg)
  · exact blk_ne' hp h.bk h1 rfl
  · obtain ⟨es, k, hm⟩ := h.mp.obj
    unfold Blk at hp
    rw [hm] at hp
    cases hp
  · exact own_ne_blk h.lo hp (Ne.symm h2) hg
end
theorem contains_more (l : List Nat) (i : Nat) (h : i < l.length) (b : Nat) : (l.take (i + 1)).contains b = ((l.take i).contains b || decide (l.getD i 0 = b)) := by
  rw [List.take_add_one, List.getElem?_eq_getElem h, Option.toList_some, List.contains_eq_any_beq, List.any_append, ← List.contains_eq_any_beq]
  congr 1
  simp [List.getD, h]
  rw [Bool.eq_iff_iff]
  simp
  exact eq_comm
/-- is a number among numbers -/
theorem hasInt_any (l : List Nat) (v : Value) (base b : Nat) (w : World) (ho : OwnI w base v l) :
    Calls Try.prog 32 #[v, .int .i64 (b : Nat)] w fun e w' => e = .returned (.bool (l.contains b)) ∧ w = w' := by
  obtain ⟨A, c, rfl, hnc, hcm, hA, hcell⟩ := own_open ho
  have hc : Hid (∀ g, A = some ⟨g, 0, none⟩ → ∀ i, i < l.length → w.cell? ⟨g, i, none⟩ = some (.int .i64 (l.getD i 0 : Nat))) := fun g hg i hi => hcell g hg i _ (by simp [intL, List.getD, hi])
  obtain ⟨n, hn⟩ : ∃ n, n = l.length := ⟨_, rfl⟩
  have hnl : Hid (n = l.length) := hn
  rw [← hn]
  rw [← hn] at hnc hA
  clear hcell ho hn
  have hmx : n ≤ 9223372036854775807 := by have h2 : maxLen = 9223372036854775807 := rfl; omega
  go_enter Try.func32, Try.ntmps32
  go_wp2_with fail
  go_loopw [9] (fun x wr => ∃ i, x = .int .i64 (i : Nat) ∧ i ≤ n ∧ Hid ((l.take i).contains b = false) ∧ w = wr) (fun x _ => n - (intOf x).toNat)
  case atStart => exact ⟨0, rfl, Nat.zero_le _, Lib.hid rfl, rfl⟩
  case round =>
    obtain ⟨i, rfl, hi, hno, rfl⟩ := hrel
    by_cases hlt : i < n
    · obtain ⟨g, rfl, _⟩ := hA (by omega)
      have e0 := hc.out g rfl i (by have := hnl.out; omega)
      have hil : (i : Int) < (n : Int) := by omega
      have hmo := contains_more l i (by have := hnl.out; omega) b
      rw [hno.out, Bool.false_or] at hmo
      have hmoH := Lib.hid hmo
      obtain ⟨x, hx⟩ : ∃ x, Hid (x = l.getD i 0) := ⟨_, rfl⟩
      rw [← hx.out] at e0 hmoH
      clear hmo
      by_cases e : x = b
      · have e' : (x : Int) = (b : Int) := by omega
        have hyes : Hid (l.contains b = true) := by
          show _ = true
          have h1 := hmoH.out
          rw [decide_eq_true e, List.contains_iff_mem] at h1
          rw [List.contains_iff_mem]
          exact List.mem_of_mem_take h1
        clear e
        go_wp2
        exact bodyPost_ret (v := .bool true) (by simp [results, Try.results32, go_sem]) rfl ⟨by rw [hyes.out], rfl⟩
      · have e' : ¬ (x : Int) = (b : Int) := by omega
        rw [decide_eq_false e] at hmoH
        go_wp2
        go_roundw
        case rel => exact ⟨i + 1, by go_num, by omega, hmoH, trivial⟩
        case measure => simp [intOf]; omega
    · have him : n = i := by omega
      subst him
      have hno' : Hid (l.contains b = false) := by
        have h1 := hno.out
        rw [hnl.out, List.take_length] at h1
        exact h1
      clear hno
      go_wp2
      exact bodyPost_ret (v := .bool false) (by simp [results, Try.results32, go_sem]) rfl ⟨by rw [hno'.out], rfl⟩
end Go.Proofs.Ytiffgeglbafenaa.snap
