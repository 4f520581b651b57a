/-
  Maps by name in memory; bytes; names; a pool's state.
-/
import Derived.Test.YtmpaheaedaeakaaProg
import Derived.Test.YtmpaheaedaeakaaPoolPlain
import Derived.Test.YtmpaheaedaeakaaAlt
import Derived.Test.YtmpaheaedaeakaaRowK
import Derived.Test.YtmpaheaedaeakaaQuietTail
import Derived.Handy
import Derived.BigRegion
import Derived.Deep.OwnRows
import Derived.Deep.MidRow
import Derived.Deep.AppendLies
import Derived.Deep.Onto
import Derived.OwnWalk
import Derived.Maps.AppendAt
import Derived.Great.Walk
import Derived.Lib.SliceRun
import Derived.Lib.MinMax
import Derived.Deep.RegionHeld3
import Derived.Deep.DeepCutAuto
import Derived.Deep.CutBlock
import Derived.IntWalk
import Derived.StringKeys
import Derived.Sort.KeysCollected
import Derived.Maps.Own
import Derived.Maps.OwnOps
import Derived.Maps.OwnSet
import Derived.Maps.Views
namespace Go.Proofs.Ytmpaheaedaeakaa.pool
open Go.ChangeShapes Go.WideShapes Go.ChangeAt Go.RowKit Go.Proofs.Ytmpaheaedaeakaa.kit Go.Deep Go.Maps
set_option linter.unusedVariables false
set_option maxRecDepth 100000
abbrev ptr (g : Nat) : Value := .pointer (some ⟨g, 0, none⟩)
abbrev tokR (v : Value) : Option (DataW Value × List MemPlace) := some (.held v, [])
theorem keyed : Keyed Try.prog 9 := string_keyed Try.underlying9
theorem key_at {x : Nm} (h : x.length ≤ maxLen) : keyOf Try.prog 9 (encStr x) = some (.string x) := by
  have := WideMaps.keyOf_string_mk (P := Try.prog) Try.underlying9 (s := ⟨x.toArray⟩) h
  simpa using this
theorem lit_ne {a b : Nm} (h : a ≠ b) : (Lit.string a) ≠ .string b := fun e => by injection e with e; exact h e
section
variable {α : Type}
/-- block b is a map by name; its elements read as rd says -/
def MP (rd : Value → α → Prop) (w : World) (b c : Nat) (l : List (Nm × α)) : Prop :=
  Asc l ∧ ∃ D : DataW Value, w.ownsMap Try.prog 9 tokR b c D ∧ size D = l.length ∧ (∀ k, has D (.string k) = (get l k).isSome) ∧ ∀ k y, get l k = some y → ∃ v, (∀ z, D.atKey (.string k) z = .held v) ∧ rd v y
variable {rd rd' : Value → α → Prop} {w w' : World} {b c : Nat} {l : List (Nm × α)}
theorem MP.obj (h : MP rd w b c l) : ∃ es k, w.heap[b]? = some (.map es k) := by
  obtain ⟨_, D, ⟨es, k, h1, _⟩, _⟩ := h
  exact ⟨es, k, h1⟩
theorem MP.lt (h : MP rd w b c l) : b < w.heap.size := by
  obtain ⟨es, k, h1⟩ := h.obj
  exact (Array.getElem?_eq_some_iff.1 h1).1
theorem MP.made (w : World) : MP rd (w.alloc (.map #[] 0)) w.heap.size 0 [] :=
  ⟨List.Pairwise.nil, .map [], World.ownsMap_made w _ _ _, rfl, fun k => rfl, fun k y h => by cases h⟩
theorem MP.alt (h : MP rd w b c l) {K : Nat → Prop} (ha : Alt K w w') (hK : ¬ K b) (hr : ∀ k y, get l k = some y → ∀ v, rd v y → rd' v y) : MP rd' w' b c l := by
  obtain ⟨h0, D, ⟨es, k, h1, h2⟩, h3, h4, h5⟩ := h
  refine ⟨h0, D, ⟨es, k, (ha.same b (Array.getElem?_eq_some_iff.1 h1).1 hK).trans h1, h2⟩, h3, h4, fun k y hk => ?_⟩
  obtain ⟨v, h6, h7⟩ := h5 k y hk
  exact ⟨v, h6, hr k y hk v h7⟩
theorem MP.mono (h : MP rd w b c l) {c' : Nat} (hc : c ≤ c') : MP rd w b c' l := by
  obtain ⟨h0, D, h1, h2⟩ := h
  exact ⟨h0, D, h1.mono hc, h2⟩
theorem MP.len (h : MP rd w b c l) {t e : TypeId} (ht : Try.prog.underlying t = some (.map 9 e)) (ty : TypeId) : (Builtin.len_ #[t] ty #[.map (some b)]).run Try.prog w = .ok (.int .i64 (l.length : Nat)) w := by
  obtain ⟨_, D, h1, h2, _⟩ := h
  rw [h1.len ht ty, h2]
theorem MP.look (h : MP rd w b c l) {t e : TypeId} (ht : Try.prog.underlying t = some (.map 9 e)) {z : Value} (hz : (zeroValue e).run Try.prog w = .ok z w) {x : Nm} (hx : x.length ≤ maxLen) :
    ∃ v, (Instr.lookup t (.map (some b)) (encStr x) true).run Try.prog w = .ok (.tuple #[v, .bool (get l x).isSome]) w ∧ (∀ y, get l x = some y → rd v y) ∧ (get l x = none → v = z) := by
  obtain ⟨_, D, h1, h2, h3, h4⟩ := h
  obtain ⟨v, ps, hr, hv⟩ := h1.look_ok keyed ht hz (zd := .held z) (zp := []) rfl (key_at hx)
  refine ⟨v, by rw [hr, h3], fun y hy => ?_, fun hn => ?_⟩
  · obtain ⟨v', h5, h6⟩ := h4 x y hy
    rw [h5] at hv
    simp [tokR] at hv
    rw [hv.1]
    exact h6
  · rw [atKey_of_not_has (by rw [h3, hn]; rfl)] at hv
    simp [tokR] at hv
    exact hv.1
theorem MP.put (h : MP rd w b c l) {t e : TypeId} (ht : Try.prog.underlying t = some (.map 9 e)) (hc : c < maxLen) {x : Nm} (hx : x.length ≤ maxLen) (val : Value) (y : α) :
    ∃ w', (Instr.mapUpdate t (.map (some b)) (encStr x) val).run Try.prog w = .ok () w' ∧ w.grownBy w' (some b) ∧ ∀ rd' : Value → α → Prop, rd' val y → (∀ k y, get l k = some y → ∀ v, rd v y → rd' v y) → MP rd' w' b (c + 1) (put l x y) := by
  obtain ⟨h0, D, h1, h2, h3, h4⟩ := h
  obtain ⟨w', hr, h5, hg⟩ := h1.update keyed ht hc (key_at hx) (val := val) (d := .held val) (ps := []) rfl
  refine ⟨w', hr, hg, fun rd' hv hrd => ⟨put_asc h0 _ _, _, h5, ?_, fun k => ?_, fun k y' hk => ?_⟩⟩
  · rw [size_put (h1.tidy keyed), h3, h2]
    cases hg : get l x with
    | none => simp [put_length_new y hg]
    | some u => simp [put_length_old h0 y (by rw [hg]; rfl)]
  · by_cases e : k = x
    · subst e
      rw [has_put_same h1.isMap (by constructor), get_put_same]
      rfl
    · rw [has_put_other (lit_ne e), get_put_other e, h3]
  · by_cases e : k = x
    · subst e
      rw [get_put_same] at hk
      cases hk
      exact ⟨val, fun z => atKey_put_same h1.isMap (by constructor) _ _, hv⟩
    · rw [get_put_other e] at hk
      obtain ⟨v, h6, h7⟩ := h4 k y' hk
      exact ⟨v, fun z => by rw [atKey_put_other (lit_ne e)]; exact h6 z, hrd k y' hk v h7⟩
theorem MP.del (h : MP rd w b c l) {t e : TypeId} (ht : Try.prog.underlying t = some (.map 9 e)) {x : Nm} (hx : x.length ≤ maxLen) (hin : (get l x).isSome = true) (ty : TypeId) :
    ∃ w', (Builtin.delete_ #[t, 9] ty #[.map (some b), encStr x]).run Try.prog w = .ok (.tuple #[]) w' ∧ w.grownBy w' (some b) ∧ ∀ rd' : Value → α → Prop, (∀ k y, get l k = some y → ∀ v, rd v y → rd' v y) → MP rd' w' b c (del l x) := by
  obtain ⟨h0, D, h1, h2, h3, h4⟩ := h
  obtain ⟨w', hr, h5, hg⟩ := h1.drop keyed ht (key_at hx) ty
  refine ⟨w', hr, hg.grown, fun rd' hrd => ⟨del_asc h0 _, _, h5, ?_, fun k => ?_, fun k y' hk => ?_⟩⟩
  · have := size_del (h1.tidy keyed) (k := .string x)
    rw [h3, hin, h2] at this
    have h7 := del_length h0 hin
    simp at this
    omega
  · by_cases e : k = x
    · subst e
      rw [has_del_same, get_del_same]
      rfl
    · rw [has_del_other (lit_ne e), get_del_other e, h3]
  · by_cases e : k = x
    · subst e
      rw [get_del_same] at hk
      cases hk
    · rw [get_del_other e] at hk
      obtain ⟨v, h6, h7⟩ := h4 k y' hk
      exact ⟨v, fun z => by rw [atKey_del_other (lit_ne e)]; exact h6 z, hrd k y' hk v h7⟩
theorem MP.grownE (h : MP rd w b c l) {row : Option Nat} (hg : w.grownBy w' row) (hr : row ≠ some b) (hrd : ∀ k y, get l k = some y → ∀ v, rd v y → rd' v y) : MP rd' w' b c l :=
  h.alt (K := fun g => row = some g) (Alt.grown (Alt.refl w) hg fun r e => .inl e) hr hrd
theorem MP.new (h : MP rd w b c l) (hn : New w w') (hrd : ∀ k y, get l k = some y → ∀ v, rd v y → rd' v y) : MP rd' w' b c l := h.alt (K := fun _ => False) (Alt.of_new hn) (fun f => f) hrd
theorem MP.ne_blk (h : MP rd w b c l) {a : Nat} {t : TypeId} {cs : Array Value} (h' : Blk w a t cs) : b ≠ a := fun e => by
  subst e
  obtain ⟨es, k, h1⟩ := h.obj
  unfold Blk at h'
  rw [h'] at h1
  cases h1
theorem MP.ne_own (h : MP rd w b c l) {B e z n : Nat} {v : Value} {xs : List Value} (ho : w.ownsRow B e z v n xs) : v.ownBlock ≠ some b := fun he => by
  obtain ⟨es, k, hm⟩ := h.obj
  rcases ho.2 with ⟨h0, _⟩ | ⟨g', cap, cur, h0, _, hg0, _⟩
  · rw [h0] at he; cases he
  · rw [h0] at he
    have : g' = b := by simpa [Value.ownBlock] using he
    subst this
    rw [hm] at hg0
    cases hg0
end
/-- a value is bytes -/
def Bs (w : World) (v : Value) (b : By) : Prop := ∃ A c, v = .slice A b.n c ∧ b.n ≤ c ∧ c ≤ maxLen ∧ (A = none → c = 0) ∧ (0 < b.n → ∃ g off cs, A = some ⟨g, off, none⟩ ∧ Blk w g 5 cs ∧ ∀ i, i < b.n → cs[off + i]? = some (.int .u8 (b.f i : Nat)))
theorem Bs.nil (w : World) : Bs w (.slice none 0 0) By.none := ⟨_, _, rfl, Nat.le_refl _, Nat.zero_le _, fun _ => rfl, fun h => absurd h (Nat.lt_irrefl 0)⟩
theorem Bs.alt {w w' : World} {v : Value} {b : By} (h : Bs w v b) {K : Nat → Prop} (ha : Alt K w w') (hK : ∀ g cs, Blk w g 5 cs → ¬ K g) : Bs w' v b := by
  obtain ⟨A, c, h1, h2, h3, h4, h5⟩ := h
  refine ⟨A, c, h1, h2, h3, h4, fun h0 => ?_⟩
  obtain ⟨g, off, cs, h6, h7, h8⟩ := h5 h0
  exact ⟨g, off, cs, h6, ha.blk h7 (hK g cs h7), h8⟩
theorem Bs.new {w w' : World} {v : Value} {b : By} (h : Bs w v b) (hn : New w w') : Bs w' v b := h.alt (K := fun _ => False) (Alt.of_new hn) fun _ _ _ f => f
theorem Bs.grown {w w' : World} {v : Value} {b : By} (h : Bs w v b) {row : Option Nat} (hg : w.grownBy w' row) (hr : ∀ g cs, Blk w g 5 cs → row ≠ some g) : Bs w' v b := h.alt (K := fun g => row = some g) (Alt.grown (Alt.refl w) hg fun r e => .inl e) hr
theorem Bs.read {w : World} {v : Value} {b : By} (h : Bs w v b) : ∃ A c, v = .slice A b.n c ∧ b.n ≤ c ∧ c ≤ maxLen ∧ (A = none → c = 0) ∧ RdI .u8 w A b.n (fun i => (b.f i : Nat)) := by
  obtain ⟨A, c, h1, h2, h3, h4, h5⟩ := h
  refine ⟨A, c, h1, h2, h3, h4, by omega, fun h0 => ?_⟩
  obtain ⟨g, off, cs, h6, h7, h8⟩ := h5 h0
  exact ⟨g, off, h6, h7.lt, fun i hi => by rw [h7.cell]; exact h8 i hi⟩
theorem Bs.congr {w : World} {v : Value} {b b' : By} (h : Bs w v b) (hn : b.n = b'.n) (hf : ∀ i, i < b.n → b.f i = b'.f i) : Bs w v b' := by
  obtain ⟨A, c, h1, h2, h3, h4, h5⟩ := h
  refine ⟨A, c, by rw [← hn]; exact h1, by omega, h3, h4, fun h0 => ?_⟩
  obtain ⟨g, off, cs, h6, h7, h8⟩ := h5 (by omega)
  exact ⟨g, off, cs, h6, h7, fun i hi => by rw [← hf i (by omega)]; exact h8 i (by omega)⟩
/-- bytes of one's own -/
theorem Bs.own {w : World} {base n : Nat} {v : Value} {f : Nat → Nat} (h : w.ownsRow base 5 1 v n (numL .u8 f n)) : Bs w v ⟨n, f⟩ := by
  rcases h.2 with ⟨rfl, h0⟩ | ⟨g, cap, cur, rfl, hb, hg, h1, h2, h3, h4⟩
  · subst h0
    exact ⟨_, _, rfl, Nat.le_refl _, Nat.zero_le _, fun _ => rfl, fun h => absurd h (Nat.lt_irrefl 0)⟩
  · refine ⟨_, _, rfl, h1, h2, (fun e => by cases e), fun h0 => ⟨g, 0, cur, rfl, hg, fun i hi => ?_⟩⟩
    have h5 := congrArg (fun l : List Value => l[i]?) h4
    simp only [List.getElem?_take, Nat.mul_one, numL] at h5
    rw [if_pos hi] at h5
    rw [Nat.zero_add, ← Array.getElem?_toList, h5]
    simp [hi]
theorem Bs.rowIs {w : World} {g n : Nat} {F : Nat → Value} {f : Nat → Nat} (h : w.rowIs g 5 n F) (hn : n ≤ maxLen) (hf : ∀ i, i < n → F i = .int .u8 (f i : Nat)) : Bs w (.slice (some ⟨g, 0, none⟩) n n) ⟨n, f⟩ := by
  obtain ⟨cs, h1, h2, h3⟩ := rowIs_blk h
  exact ⟨_, _, rfl, Nat.le_refl _, hn, fun e => (by cases e), fun h0 => ⟨g, 0, cs, rfl, h1, fun i hi => by rw [Nat.zero_add, h3 i hi, hf i hi]⟩⟩
/-- a value is names -/
def Ns (w : World) (v : Value) (l : List Nm) : Prop := w.ownsRow 0 9 1 v l.length (l.map encStr)
theorem Ns.nil (w : World) : Ns w (.slice none 0 0) [] := World.ownsRow_nil _ _ _ _
theorem Ns.alt {w w' : World} {v : Value} {l : List Nm} (h : Ns w v l) {K : Nat → Prop} (ha : Alt K w w') (hK : ∀ g cs, Blk w g 9 cs → ¬ K g) : Ns w' v l := Alt.own ha h fun g hg => by
  rcases h.2 with ⟨h0, _⟩ | ⟨g', cap, cur, h0, _, hg0, _⟩
  · rw [h0] at hg; cases hg
  · rw [h0] at hg
    have : g' = g := by simpa [Value.ownBlock] using hg
    subst this
    exact hK _ _ hg0
theorem Ns.new {w w' : World} {v : Value} {l : List Nm} (h : Ns w v l) (hn : New w w') : Ns w' v l := h.alt (K := fun _ => False) (Alt.of_new hn) fun _ _ _ f => f
/-- an answer -/
def TdV (w : World) (v : Value) (t : Td) : Prop := ∃ dv nv, v = .agg #[.int .i64 t.code, .bool false, .int .i64 (t.size : Nat), dv, nv] ∧ Bs w dv t.dat ∧ Ns w nv t.names
theorem TdV.alt {w w' : World} {v : Value} {t : Td} (h : TdV w v t) {K : Nat → Prop} (ha : Alt K w w') (h1 : ∀ g cs, Blk w g 5 cs → ¬ K g) (h2 : ∀ g cs, Blk w g 9 cs → ¬ K g) : TdV w' v t := by
  obtain ⟨dv, nv, h3, h4, h5⟩ := h
  exact ⟨dv, nv, h3, h4.alt ha h1, h5.alt ha h2⟩
theorem TdV.new {w w' : World} {v : Value} {t : Td} (h : TdV w v t) (hn : New w w') : TdV w' v t := h.alt (K := fun _ => False) (Alt.of_new hn) (fun _ _ _ f => f) fun _ _ _ f => f
theorem TdV.no (w : World) (c : Int) : TdV w (.agg #[.int .i64 c, .bool false, .int .i64 0, .slice none 0 0, .slice none 0 0]) (Td.no c) := ⟨_, _, rfl, Bs.nil w, Ns.nil w⟩
/-- what a snapshot's map reads as -/
def Sn (base ob nb c : Nat) (w : World) (v : Value) (l : Ths) : Prop := ∃ b, v = .map (some b) ∧ b ≠ ob ∧ b ≠ nb ∧ base ≤ b ∧ MP (Bs w) w b c l
/-- a pool's state -/
structure St (base sb ob nb c : Nat) (s : PS) (w : World) : Prop where
  bk : Blk w sb 50 #[.map (some ob), .map (some nb), .slice none 0 0]
  om : MP (Bs w) w ob c s.ths
  nm : MP (Sn base ob nb c w) w nb c s.shs
  ge : base ≤ sb ∧ base ≤ ob ∧ base ≤ nb
  ne : ob ≠ nb
/-- its blocks that are written -/
def PK (sb ob nb : Nat) (k : Nat) : Prop := k = sb ∨ k = ob ∨ k = nb
end Go.Proofs.Ytmpaheaedaeakaa.pool
