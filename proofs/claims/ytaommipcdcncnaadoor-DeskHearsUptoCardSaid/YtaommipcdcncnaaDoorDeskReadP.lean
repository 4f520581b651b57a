/-
  What the program's Read keeps.
-/
import Derived.Test.YtaommipcdcncnaaDoorDeskCand
import Derived.Test.YtaommipcdcncnaaDoorDeskFind
import Derived.Test.YtaommipcdcncnaaDoorDeskSplit
import Derived.Test.YtaommipcdcncnaaDoorDeskNumber
import Derived.Test.YtaommipcdcncnaaDoorDeskUnhex
namespace Go.Proofs.YtaommipcdcncnaaDoor.desk
open Go.ChangeShapes Go.WideShapes Go.ChangeAt Go.RowKit Go.Proofs.YtaommipcdcncnaaDoor.kit Go.Deep
set_option linter.unusedVariables false
set_option maxRecDepth 100000
def zC : Cu := ⟨[], [], 0, 0, 0, 0, none, 0, 0⟩
theorem zC_zero : ∀ t, sgn t → zeroF t zC := (zeroC_iff zC).1 rfl
/-- what the loop over a kind's signs keeps -/
def RInv (f : Nat → Nat) (i0 : Nat) (P : List Tx) (cur : Cu) (j : Nat) (ok : Bool) : Prop :=
  (∀ i, f i < 256) ∧ BdC cur ∧ (∀ t, sgn t → t ∈ (wordK i0).2.take j ∨ zeroF t cur) ∧ ∃ bs : Nat → Bool, (∀ m (h : m < (wordK i0).2.length), m < j → Rds f ((wordK i0).2[m]) cur (P.getD (m + 1) []) (bs m)) ∧ (ok = true ↔ ∀ m, m < j → bs m = true)
theorem RInv.start (f : Nat → Nat) (hf : ∀ i, f i < 256) (i0 : Nat) (P : List Tx) : RInv f i0 P zC 0 true :=
  ⟨hf, ⟨by decide, by decide, by decide, by decide, by decide, by decide, by decide, by decide⟩, fun t ht => .inr (zC_zero t ht), fun _ => true, fun m h hm => absurd hm (Nat.not_lt_zero m), ⟨fun _ m hm => absurd hm (Nat.not_lt_zero m), fun _ => rfl⟩⟩
theorem RInv.step {f f' : Nat → Nat} {i0 : Nat} {P : List Tx} {cur cur' : Cu} {j : Nat} {ok b : Bool} {s : UInt8} (h : RInv f i0 P cur j ok) (hi0 : i0 < 19) (hj : j < (wordK i0).2.length) (hs : s = (wordK i0).2[j]) (hB : BdC cur') (hf' : ∀ i, f' i < 256)
    (hr : Rds f' s cur' (P.getD (j + 1) []) b) (hk : ∀ t, sgn t → t ≠ s → (∀ p b, Rds f t cur p b → Rds f' t cur' p b) ∧ (zeroF t cur → zeroF t cur')) : RInv f' i0 P cur' (j + 1) (ok && b) := by
  obtain ⟨hf, _, hz, bs, hb, ho⟩ := h
  refine ⟨hf', hB, fun t ht => ?_, fun m => if m = j then b else bs m, fun m hm hmj => ?_, ?_⟩
  · by_cases e : t = s
    · subst e
      refine .inl ?_
      rw [hs]
      exact List.mem_take_iff_getElem.2 ⟨j, by omega, rfl⟩
    · rcases hz t ht with h | h
      · refine .inl ?_
        rw [List.take_add_one]
        exact List.mem_append_left _ h
      · exact .inr ((hk t ht e).2 h)
  · dsimp only
    by_cases e : m = j
    · subst e
      rw [if_pos rfl, ← hs]
      exact hr
    · rw [if_neg e]
      have hne : (wordK i0).2[m] ≠ s := by
        rw [hs]
        intro h
        rcases Nat.lt_or_ge m j with h2 | h2
        · exact List.pairwise_iff_getElem.1 (signs_dup i0 hi0) m j hm hj h2 h
        · exact List.pairwise_iff_getElem.1 (signs_dup i0 hi0) j m hj hm (by omega) h.symm
      exact (hk _ (signs_sgn hi0 _ (List.getElem_mem hm)) hne).1 _ _ (hb m hm (by omega))
  · rw [Bool.and_eq_true, ho]
    constructor
    · rintro ⟨h1, h2⟩ m hm
      dsimp only
      by_cases e : m = j
      · rw [if_pos e]
        exact h2
      · rw [if_neg e]
        exact h1 m (by omega)
    · intro h
      refine ⟨fun m hm => ?_, ?_⟩
      · have := h m (by omega)
        dsimp only at this
        rw [if_neg (by omega)] at this
        exact this
      · have := h j (by omega)
        dsimp only at this
        rw [if_pos rfl] at this
        exact this
theorem RInv.cand {f : Nat → Nat} {i0 : Nat} {P : List Tx} {cur : Cu} {ok : Bool} (h : RInv f i0 P cur (wordK i0).2.length ok) : ∃ bs, Cand f i0 P cur bs ∧ (ok = true ↔ ∀ m, m < (wordK i0).2.length → bs m = true) := by
  obtain ⟨hf, _, hz, bs, hb, ho⟩ := h
  refine ⟨bs, ⟨fun m hm => hb m hm hm, fun t ht => ?_⟩, ho⟩
  have := hz t ht
  rw [List.take_length] at this
  exact this
theorem keep_n (f : Nat → Nat) (C : Cu) (x : Tx) : ∀ t, sgn t → t ≠ 110 → (∀ p b, Rds f t C p b → Rds f t { C with nm := x } p b) ∧ (zeroF t C → zeroF t { C with nm := x }) := by
  rintro t (rfl | rfl | rfl | rfl | rfl | rfl | rfl) h <;> first | exact absurd rfl h | exact ⟨fun _ _ h => h, fun h => h⟩
theorem keep_o (f : Nat → Nat) (C : Cu) (x : Tx) : ∀ t, sgn t → t ≠ 111 → (∀ p b, Rds f t C p b → Rds f t { C with ot := x } p b) ∧ (zeroF t C → zeroF t { C with ot := x }) := by
  rintro t (rfl | rfl | rfl | rfl | rfl | rfl | rfl) h <;> first | exact absurd rfl h | exact ⟨fun _ _ h => h, fun h => h⟩
theorem keep_f (f : Nat → Nat) (C : Cu) (x : Int) : ∀ t, sgn t → t ≠ 102 → (∀ p b, Rds f t C p b → Rds f t { C with off := x } p b) ∧ (zeroF t C → zeroF t { C with off := x }) := by
  rintro t (rfl | rfl | rfl | rfl | rfl | rfl | rfl) h <;> first | exact absurd rfl h | exact ⟨fun _ _ h => h, fun h => h⟩
theorem keep_c (f : Nat → Nat) (C : Cu) (x : Int) : ∀ t, sgn t → t ≠ 99 → (∀ p b, Rds f t C p b → Rds f t { C with cnt := x } p b) ∧ (zeroF t C → zeroF t { C with cnt := x }) := by
  rintro t (rfl | rfl | rfl | rfl | rfl | rfl | rfl) h <;> first | exact absurd rfl h | exact ⟨fun _ _ h => h, fun h => h⟩
theorem keep_d (f : Nat → Nat) (C : Cu) (x : Int) : ∀ t, sgn t → t ≠ 100 → (∀ p b, Rds f t C p b → Rds f t { C with drv := x } p b) ∧ (zeroF t C → zeroF t { C with drv := x }) := by
  rintro t (rfl | rfl | rfl | rfl | rfl | rfl | rfl) h <;> first | exact absurd rfl h | exact ⟨fun _ _ h => h, fun h => h⟩
theorem keep_k (f : Nat → Nat) (C : Cu) (x : Int) : ∀ t, sgn t → t ≠ 107 → (∀ p b, Rds f t C p b → Rds f t { C with kp := x } p b) ∧ (zeroF t C → zeroF t { C with kp := x }) := by
  rintro t (rfl | rfl | rfl | rfl | rfl | rfl | rfl) h <;> first | exact absurd rfl h | exact ⟨fun _ _ h => h, fun h => h⟩
theorem keep_x (f g : Nat → Nat) (C : Cu) (R : Option Addr) (n c : Nat) : ∀ t, sgn t → t ≠ 120 → (∀ p b, Rds f t C p b → Rds g t { C with R := R, dn := n, dc := c } p b) ∧ (zeroF t C → zeroF t { C with R := R, dn := n, dc := c }) := by
  rintro t (rfl | rfl | rfl | rfl | rfl | rfl | rfl) h <;> first | exact absurd rfl h | exact ⟨fun _ _ h => h, fun h => h⟩
/-- a field of the command is written -/
theorem put_mem {w5 wr : World} {base C I pos n : Nat} {cs : Array Value} {v : Value} {xs : List Value} {s : ByteArray} {t : TypeId} (ht : 5 ≠ t) (hb : Blk wr C t cs) (hi : wr.heap[I]? = some (.stringIter s pos)) (ho : wr.ownsRow base 5 1 v n xs) (hN : New w5 wr) (hC : w5.heap.size ≤ C) (j : Nat) (z : Value) :
    Blk (wr.setCell ⟨C, j, none⟩ z) C t (cs.setIfInBounds j z) ∧ (wr.setCell ⟨C, j, none⟩ z).heap[I]? = some (.stringIter s pos) ∧ (wr.setCell ⟨C, j, none⟩ z).ownsRow base 5 1 v n xs ∧ New w5 (wr.setCell ⟨C, j, none⟩ z) := by
  have ha : Alt (fun g => g = C) wr (wr.setCell ⟨C, j, none⟩ z) := Alt.set (K := fun g => g = C) (Alt.refl wr) (.inl rfl) _
  refine ⟨hb.put j z, ?_, Alt.own ha ho fun g hg e => ?_, hN.set hC _⟩
  · rw [ha.same I (Array.getElem?_eq_some_iff.1 hi).1 fun e => ?_]
    · exact hi
    · subst e
      unfold Blk at hb
      rw [hi] at hb
      cases hb
  · subst e
    exact own_ne_blk ho hb ht hg
theorem own_slice {w : World} {base n : Nat} {e : TypeId} {size : Nat} {v : Value} {xs : List Value} (h : w.ownsRow base e size v n xs) : ∃ R c, v = .slice R n c := by
  rcases h.2 with ⟨h0, h1⟩ | ⟨g', cap, cur, h0, _⟩
  · refine ⟨none, 0, ?_⟩
    have : n = 0 := by first | exact h1 | (have := h.1; simp_all)
    rw [h0, this]
  · exact ⟨_, _, h0⟩
theorem own_rdI {w : World} {base n : Nat} {R : Option Addr} {c : Nat} {f : Nat → Nat} (h : w.ownsRow base 5 1 (.slice R n c) n (numL .u8 f n)) (hm : n ≤ maxLen) : RdI .u8 w R n (fun i => (f i : Nat)) := by
  rcases h.2 with ⟨h0, h1⟩ | ⟨g', cap, cur, h0, _⟩
  · injection h0 with e1 e2 e3
    exact ⟨hm, fun h => by omega⟩
  · injection h0 with e1 e2 e3
    subst e1
    subst e3
    exact (RowK.of_own h).rdI hm
def RdR (line : Tx) (w : World) (e : Ending) (w' : World) : Prop := ∃ k C f code, e = .returned (.tuple #[.agg (cuA k C), .int .i64 code]) ∧ RdP line k C f code ∧ (RdI .u8 w' C.R C.dn (fun i => (f i : Nat)) ∧ C.dn ≤ 1048576) ∧ New w w'
theorem cu_one (k : Int) (C : Cu) : (cuA k C).all (·.oneCell') = true := by simp [cuA, encStr, Value.oneCell']
theorem read_none {line : Tx} (f : Nat → Nat) (hf : ∀ i, f i < 256) (h : ∀ i, i < 19 → NoneAt line i) : RdP line 0 zC f 4 :=
  ⟨⟨hf, ⟨by decide, by decide, by decide, by decide, by decide, by decide, by decide, by decide⟩⟩, .inr ⟨rfl, rfl, zC_zero, h⟩⟩
theorem rdI_nil (w : World) (f : Nat → Nat) : RdI .u8 w none 0 (fun i => (f i : Nat)) := ⟨Nat.zero_le _, fun h => absurd h (Nat.lt_irrefl 0)⟩
theorem RdR.none {line : Tx} {w w' : World} (h : ∀ i, i < 19 → NoneAt line i) (hn : New w w') : RdR line w (.returned (.tuple #[.agg (cuA 0 zC), .int .i64 4])) w' :=
  ⟨0, zC, fun _ => 0, 4, rfl, read_none _ (fun _ => by show 0 < 256; decide) h, ⟨rdI_nil _ _, Nat.zero_le _⟩, hn⟩
end Go.Proofs.YtaommipcdcncnaaDoor.desk
