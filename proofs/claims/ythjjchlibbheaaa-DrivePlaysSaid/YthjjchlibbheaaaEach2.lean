import Derived.RangeFuncNested
import Derived.RangeFuncBound
import Derived.RangeFuncCalls
import Derived.RangeFuncLeaves
import Derived.Test.YthjjchlibbheaaaKit
/-
  A range over a function whose iterator keeps state of its own in the cells of a few blocks that it lays first: the iterator's word, and the law for the loop.
-/
namespace Go.Proofs.Ythjjchlibbheaaa.each
open Go.RowKit Go.Proofs.Ythjjchlibbheaaa.kit
set_option linter.unusedVariables false

/-- the blocks from lo on, ahead of hi, and those of Kx, lie as they lay -/
structure Held (Kx : Nat → Prop) (lo hi : Nat) (W W' : World) : Prop where
  size : W.heap.size ≤ W'.heap.size
  same : ∀ k, (Kx k ∨ lo ≤ k ∧ k < hi) → k < W.heap.size → W'.heap[k]? = W.heap[k]?
section
variable {Kx : Nat → Prop} {lo hi : Nat}
theorem Held.refl (W : World) : Held Kx lo hi W W := ⟨Nat.le_refl _, fun _ _ _ => rfl⟩
theorem Held.trans {A B C : World} (h : Held Kx lo hi A B) (k : Held Kx lo hi B C) : Held Kx lo hi A C :=
  ⟨Nat.le_trans h.size k.size, fun i h1 h3 => (k.same i h1 (Nat.lt_of_lt_of_le h3 h.size)).trans (h.same i h1 h3)⟩
theorem Held.less {lo' hi' : Nat} {A B : World} (h : Held Kx lo hi A B) (h1 : lo ≤ lo') (h2 : hi' ≤ hi) : Held Kx lo' hi' A B := ⟨h.size, fun i a c => h.same i (a.elim .inl fun a => .inr (by omega)) c⟩
theorem Held.grown {A B : World} {row : Option Nat} (h : A.grownBy B row) (hr : ∀ r, row = some r → ¬ Kx r ∧ (r < lo ∨ hi ≤ r)) : Held Kx lo hi A B :=
  ⟨h.size, fun i h1 h3 => h.block i h3 fun e => by have := hr i e.symm; rcases h1 with h1 | h1; exact this.1 h1; omega⟩
theorem Held.below {B : Nat} {X Y : World} (h : Below B X Y) (hK : ∀ k, Kx k → k < B) (hB : hi ≤ B) : Held Kx lo hi X Y :=
  ⟨h.size, fun i h1 h3 => h.block i (h1.elim (hK i) fun h => by omega)⟩
theorem Held.at {A B : World} (h : Held Kx lo hi A B) {k : Nat} {o : Obj} (h1 : Kx k ∨ lo ≤ k ∧ k < hi) (hk : A.heap[k]? = some o) : B.heap[k]? = some o :=
  (h.same k h1 (Array.getElem?_eq_some_iff.1 hk).1).trans hk
end
/-- what is said does not mind new blocks, nor what becomes of the blocks from lo on, ahead of hi -/
def Bears {β : Type} (lo hi : Nat) (J : β → World → Prop) : Prop :=
  ∀ s W W' row, J s W → W.grownBy W' row → (∀ r, row = some r → lo ≤ r ∧ r < hi) → J s W'
theorem Bears.alloc {β : Type} {lo hi : Nat} {J : β → World → Prop} (h : Bears lo hi J) {s : β} {W : World} (o : Obj) (hs : J s W) : J s (W.alloc o) :=
  h s W _ none hs (World.grownBy_alloc W o none) (fun r e => by cases e)
theorem Bears.putObj {β : Type} {lo hi : Nat} {J : β → World → Prop} (h : Bears lo hi J) {s : β} {W : World} {k : Nat} (o : Obj) (hs : J s W) (h1 : lo ≤ k) (h2 : k < hi) : J s (W.putObj k o) :=
  h s W _ (some k) hs (grownBy_putObj' W k o) (fun r e => by cases e; exact ⟨h1, h2⟩)

/-- THE ITERATOR's WORD: all of S comes, one by one, or a part of it, a round having said 'no more'. Its own state lies in the m blocks that it lays first. -/
def EachK {α : Type} (n : Nat) (P : Program) (g : Nat) (lb : Array Value) (m : Nat) (Kx : Nat → Prop) (S : List α) (arg : Nat → α → Array Value → World → Prop) (w : World) : Prop :=
  ∀ (l : Nat) (J Jx : List α → World → Prop) (W : World), Below w.heap.size w W → Bears W.heap.size (W.heap.size + m) J → Bears W.heap.size (W.heap.size + m) Jx →
    (∀ pre x v W1, J pre W1 → pre ++ [x] <+: S → arg (W.heap.size + m) x v W1 → W.heap.size + m ≤ W1.heap.size → YieldAt Fence.wide n P l v W1 fun e W' =>
      (e = .returned (.bool true) ∧ J (pre ++ [x]) W' ∧ Held Kx W.heap.size (W.heap.size + m) W1 W') ∨ (e = .returned (.bool false) ∧ Jx (pre ++ [x]) W')) →
    J [] W →
    CallsIn Fence.wide n P g (#[.func (.yield l) #[] #[]] ++ lb) W fun e W' => (∃ v, e = .returned v) ∧ (J S W' ∨ ∃ pre, pre <+: S ∧ Jx pre W')

/-- how the body of a round may be left -/
def eachPost {α : Type} (Kx : Nat → Prop) (lo hi : Nat) (I : List α → World → Prop) (Ix : Code → List α → World → Prop) (xs : List α) (W : World) : Exit → Act → World → Prop
  | .normal, _, W' => Held Kx lo hi W W' ∧ I xs W'
  | .ret, _, W' => Held Kx lo hi W W' ∧ Ix .ret xs W'
  | .exit id, _, W' => Held Kx lo hi W W' ∧ Ix (.exit id) xs W'
  | .goto t, _, W' => Held Kx lo hi W W' ∧ Ix (.goto t) xs W'
  | .panic _, _, _ => False
  | .outgrown, _, _ => False

theorem wide_round : Fence.wide.round = none := rfl
theorem wide_depth : Fence.wide.depth = none := rfl

/-- THE LOOP. -/
theorem wpIn_each {P : Program} {n : Nat} {α : Type} {g : Operand} {ps : Array Tmp} {assign body : Code} {Q : Exit → Act → World → Prop} {a : Act} {w : World} {gf : Nat} {lb : Array Value}
    (hg : a.eval g = .func (.func gf) #[] lb) (eg : ∀ args w, (callFunc gf args).run P w = .ok (.enter gf args) w)
    {m : Nat} {Kx : Nat → Prop} {S : List α} {arg : Nat → α → Array Value → World → Prop} {w0 : World} (hseq : EachK n P gf lb m Kx S arg w0) (hb0 : Below w0.heap.size w0 w) (hKx : ∀ k, Kx k → k < w.heap.size)
    (hargs : ∀ B x v W, arg B x v W → v.size = ps.size)
    (I : List α → World → Prop) (Ix : Code → List α → World → Prop) (hI : Bears w.heap.size (w.heap.size + 2 + m) I) (hIx : ∀ c, Bears w.heap.size (w.heap.size + 2 + m) (Ix c)) (h0 : I [] w) 
    (Ax : α → Act → World → Prop) (hAx : ∀ x a' W W' row, Ax x a' W → W.grownBy W' row → (∀ r, row = some r → w.heap.size ≤ r ∧ r < w.heap.size + 2 + m) → Ax x a' W')
    (hassign : ∀ (l : Nat) (pre : List α) (x : α) (v : Array Value) (W : World), w.heap.size + 2 + m ≤ W.heap.size → I pre W → arg (w.heap.size + 2 + m) x v W → ∀ (K : Act → World → Prop), (∀ a' W', Ax x a' W' → I pre W' → New W W' → K a' W') →
      assign.wpIn (Fence.wide.inRound l) n P (Exit.then K (fun _ _ _ => False)) { tmps := (ps.zip v).foldl (fun t (p, v) => t.setIfInBounds p v) a.tmps, defers := [] } W)
    (hbody : ∀ (l : Nat) (pre : List α) (x : α) (a' : Act) (W : World), w.heap.size + 2 + m ≤ W.heap.size → I pre W → pre ++ [x] <+: S → Ax x a' W →
      body.wpIn (Fence.wide.inRound l) n P (eachPost Kx w.heap.size (w.heap.size + 2 + m) I Ix (pre ++ [x]) W) a' W)
    (hdone : ∀ (W : World), I S W → W.heap[w.heap.size]? = some (.deferred (some [])) → Q .normal { a with defers := { target := .collected w.heap.size, args := #[] } :: a.defers } W)
    (hstop : ∀ (c : Code) (pre : List α) (W : World), pre <+: S → Ix c pre W → W.heap[w.heap.size]? = some (.deferred (some [])) → c.wpIn Fence.wide n P Q { a with defers := { target := .collected w.heap.size, args := #[] } :: a.defers } W) :
    (Code.rangeFunc g ps assign body).wpIn Fence.wide n P Q a w := by
  refine wpIn_rangeFunc fun fn hfn => ?_
  rw [wide_round]
  let rec0 : LoopState → Option Code → Loop := fun st pe => { state := st, pending := pe, fn := fn, tmps := a.tmps, params := ps, assign := assign, body := body, defers := w.heap.size }
  obtain ⟨rc, hrc⟩ : ∃ rc, rc = rec0 := ⟨_, rfl⟩
  have rstate : ∀ st pe, (rc st pe).state = st := fun st pe => by rw [hrc]
  have rpend : ∀ st pe, (rc st pe).pending = pe := fun st pe => by rw [hrc]
  have rnext : ∀ st pe st' pe', ({ rc st pe with state := st', pending := pe' } : Loop) = rc st' pe' := fun st pe st' pe' => by rw [hrc]
  have rbusy : ∀ pe, ({ rc .ready pe with state := .busy } : Loop) = rc .busy pe := fun pe => by rw [hrc]
  obtain ⟨W1, hW1⟩ : ∃ W1, W1 = (w.alloc (.deferred (some []))).alloc (.loop (rc .ready none)) := ⟨_, rfl⟩
  have hs1 : W1.heap.size = w.heap.size + 2 := by rw [hW1]; simp
  have hL : W1.heap[w.heap.size + 1]? = some (.loop (rc .ready none)) := by
    rw [hW1]; have := World.alloc_heap_new (w.alloc (.deferred (some []))) (.loop (rc .ready none)); rwa [World.size_alloc] at this
  have hM : W1.heap[w.heap.size]? = some (.deferred (some [])) := by
    rw [hW1]; exact (Below.heap_alloc _ _ _ (by simp)).trans (World.alloc_heap_new w _)
  have hI1 : I [] W1 := by rw [hW1]; exact hI.alloc _ (hI.alloc _ h0)
  have hbel : Below w0.heap.size w0 W1 := by
    rw [hW1]; exact hb0.trans ((((Below.refl _ w).alloc (Nat.le_refl _) _).alloc (by simp) _).mono hb0.size)
  have hkeep : ∀ {A B : World} {row : Option Nat} {k : Nat} {o : Obj}, A.grownBy B row → (∀ r, row = some r → W1.heap.size ≤ r ∧ r < W1.heap.size + m) → k < w.heap.size + 2 → A.heap[k]? = some o → B.heap[k]? = some o := fun hg' hr hk ho =>
    (hg'.block _ (Array.getElem?_eq_some_iff.1 ho).1 fun e => by have := (hr _ e.symm).1; omega).trans ho
  refine ⟨w.heap.size + 1, [{ target := .collected w.heap.size, args := #[] }], W1, { target := .fn (.func gf) lb, args := #[.func (.yield (w.heap.size + 1)) #[] #[]] }, W1, gf,
    #[.func (.yield (w.heap.size + 1)) #[] #[]] ++ lb, W1, ?_, ?_, ?_, ?_, ?_, ?_⟩
  · rw [hW1, hrc]; exact run_enterLoop_outer _ _ _ _ _
  · simp only [resolve, hg]
    simp [go_sem]
  · intro f' hf'; trivial
  · simp [invoke, go_sem, eg]
  · intro h; simp [wide_depth] at h
  · refine callsIn_wide.2 (callsIn_wide.1 ((hseq (w.heap.size + 1)
      (fun pre W => I pre W ∧ W.heap[w.heap.size + 1]? = some (.loop (rc .ready none)) ∧ W.heap[w.heap.size]? = some (.deferred (some [])))
      (fun pre W => ∃ c, Ix c pre W ∧ W.heap[w.heap.size + 1]? = some (.loop (rc .done (some c))) ∧ W.heap[w.heap.size]? = some (.deferred (some [])))
      W1 hbel
      (fun s A B row hs hg' hr => ⟨hI s A B row hs.1 hg' (fun r e => by have := hr r e; omega), hkeep hg' hr (by omega) hs.2.1, hkeep hg' hr (by omega) hs.2.2⟩)
      (fun s A B row hs hg' hr => by
        obtain ⟨c, hc, hl, hk⟩ := hs
        exact ⟨c, hIx c s A B row hc hg' (fun r e => by have := hr r e; omega), hkeep hg' hr (by omega) hl, hkeep hg' hr (by omega) hk⟩)
      ?_ ⟨hI1, hL, hM⟩).mono ?_))
    · rintro pre x v W ⟨hi, hl, hk⟩ hpre ha hsz
      have hlt : w.heap.size + 1 < W.heap.size := (Array.getElem?_eq_some_iff.1 hl).1
      have hy := run_yield (P := P) (args := v) hl (by rw [hrc]; exact hargs _ _ _ _ ha)
      refine ⟨fn, ((ps.zip v).foldl (fun t (p, v) => t.setIfInBounds p v) a.tmps), assign, body, by rw [hy, hrc], ?_⟩
      refine roundIn_of_wpIn hfn (hassign _ pre x v W (by omega) hi (by rw [hs1] at ha; exact ha) _ fun a' W0 hax hi0 hn0 => ⟨_, run_beginRound ((hn0.block _ hlt).trans hl) (rstate _ _), ?_⟩)
      rw [rbusy]
      obtain ⟨W2, hW2⟩ : ∃ W2, W2 = W0.putObj (w.heap.size + 1) (.loop (rc .busy none)) := ⟨_, rfl⟩
      have hl2 : W2.heap[w.heap.size + 1]? = some (.loop (rc .busy none)) := by rw [hW2]; exact World.putObj_heap_same (Nat.lt_of_lt_of_le hlt hn0.size)
      have hk2 : W2.heap[w.heap.size]? = some (.deferred (some [])) := by rw [hW2]; exact (World.putObj_heap_other (by omega)).trans ((hn0.block _ (by omega)).trans hk)
      have hg2 : W0.grownBy W2 (some (w.heap.size + 1)) := by rw [hW2]; exact grownBy_putObj' _ _ _
      have hi2 : I pre W2 := hI _ _ _ _ hi0 hg2 (fun r e => by cases e; omega)
      have ha2 : Ax x a' W2 := hAx _ _ _ _ _ hax hg2 (fun r e => by cases e; omega)
      have hz2 : w.heap.size + 2 + m ≤ W2.heap.size := by have := hg2.size; have := hn0.size; omega
      have hh0 : ∀ lo' hi', Held Kx lo' hi' W W0 := fun lo' hi' => ⟨hn0.size, fun k _ hk => hn0.block k hk⟩
      rw [← hW2]
      refine wpIn_mono (hbody _ pre x a' W2 hz2 hi2 hpre ha2) ?_
      have fin : ∀ (jump : Option Code) (W3 : World), Held Kx w.heap.size (w.heap.size + 2 + m) W2 W3 →
          (Instr.endRound (w.heap.size + 1) jump).run P W3 = .ok (.bool jump.isNone) (W3.putObj (w.heap.size + 1) (.loop (rc (if jump.isNone then .ready else .done) jump))) ∧
          W3.grownBy (W3.putObj (w.heap.size + 1) (.loop (rc (if jump.isNone then .ready else .done) jump))) (some (w.heap.size + 1)) ∧
          (W3.putObj (w.heap.size + 1) (.loop (rc (if jump.isNone then .ready else .done) jump))).heap[w.heap.size + 1]? = some (.loop (rc (if jump.isNone then .ready else .done) jump)) ∧
          (W3.putObj (w.heap.size + 1) (.loop (rc (if jump.isNone then .ready else .done) jump))).heap[w.heap.size]? = some (.deferred (some [])) := fun jump W3 h3 => by
        have hl3 := h3.at (.inr (by omega)) hl2
        have hk3 := h3.at (.inr (by omega)) hk2
        have hr := run_endRound (P := P) jump hl3
        rw [rnext] at hr
        exact ⟨hr, grownBy_putObj' _ _ _, World.putObj_heap_same (Array.getElem?_eq_some_iff.1 hl3).1, (World.putObj_heap_other (by omega)).trans hk3⟩
      have hin : ∀ r, some (w.heap.size + 1) = some r → w.heap.size ≤ r ∧ r < w.heap.size + 2 + m := fun r e => by cases e; omega
      rintro e a3 W3 hp
      cases e with
      | normal =>
        obtain ⟨h3, hi3⟩ := hp
        obtain ⟨hr, hg3, hl4, hk4⟩ := fin none W3 h3
        refine ⟨_, _, hr, .inl ⟨rfl, ⟨hI _ _ _ _ hi3 hg3 hin, hl4, hk4⟩, ?_⟩⟩
        rw [hs1]
        exact (((hh0 _ _).trans (Held.grown hg2 fun r e => by cases e; exact ⟨fun h => by have := hKx _ h; omega, by omega⟩)).trans (h3.less (by omega) (by omega))).trans (Held.grown hg3 fun r e => by cases e; exact ⟨fun h => by have := hKx _ h; omega, by omega⟩)
      | ret =>
        obtain ⟨h3, hi3⟩ := hp
        obtain ⟨hr, hg3, hl4, hk4⟩ := fin (some .ret) W3 h3
        exact ⟨_, _, hr, .inr ⟨rfl, .ret, hIx _ _ _ _ _ hi3 hg3 hin, hl4, hk4⟩⟩
      | exit id =>
        obtain ⟨h3, hi3⟩ := hp
        obtain ⟨hr, hg3, hl4, hk4⟩ := fin (some (.exit id)) W3 h3
        exact ⟨_, _, hr, .inr ⟨rfl, .exit id, hIx _ _ _ _ _ hi3 hg3 hin, hl4, hk4⟩⟩
      | goto t =>
        obtain ⟨h3, hi3⟩ := hp
        obtain ⟨hr, hg3, hl4, hk4⟩ := fin (some (.goto t)) W3 h3
        exact ⟨_, _, hr, .inr ⟨rfl, .goto t, hIx _ _ _ _ _ hi3 hg3 hin, hl4, hk4⟩⟩
      | panic ch => exact hp.elim
      | outgrown => exact hp.elim
    · have hin : ∀ r, some (w.heap.size + 1) = some r → w.heap.size ≤ r ∧ r < w.heap.size + 2 + m := fun r e => by cases e; omega
      rintro e W2 ⟨⟨v, rfl⟩, (⟨hi, hl, hk⟩ | ⟨pre, hpre, c, hi, hl, hk⟩)⟩
      · have hr := run_endLoop (P := P) hl (by rw [rstate]; simp)
        rw [rpend] at hr
        exact ⟨none, _, hr, hdone _ (hI _ _ _ _ hi (grownBy_putObj' _ _ _) hin) ((World.putObj_heap_other (by omega)).trans hk)⟩
      · have hr := run_endLoop (P := P) hl (by rw [rstate]; simp)
        rw [rpend] at hr
        exact ⟨some c, _, hr, hstop c pre _ hpre (hIx _ _ _ _ _ hi (grownBy_putObj' _ _ _) hin) ((World.putObj_heap_other (by omega)).trans hk)⟩
#print axioms wpIn_each
end Go.Proofs.Ythjjchlibbheaaa.each
