import Derived.RangeFuncNested
import Derived.RangeFuncBound
import Derived.RangeFuncCalls
import Derived.RangeFuncLeaves
import Derived.Test.YtjmjnodaohbpfaaKit
import Derived.Test.YtjmjnodaohbpfaaCombPick
import Derived.Shelf.Abstract
import Derived.Shelf.RegionOpen
import Derived.OwnWalkIn
import Derived.TacticsInMore
import Derived.LoopNIn
import Derived.LoopIn
import Derived.Lib.JoinLaws
import Derived.Laws.EntriesVeiled
/-
  A range over a function whose iterator keeps state of its own in the cells of a few blocks that it lays first: the iterator's word, and the law for the loop.
-/
namespace Go.Proofs.Ytjmjnodaohbpfaa.each
open Go.RowKit Go.Proofs.Ytjmjnodaohbpfaa.kit
set_option linter.unusedVariables false

/-- the blocks from lo on, ahead of hi, and those of Kx, lie as they lay -/
structure Held (Kx : Nat → Prop) (lo hi : Nat) (W W' : World) : Prop where
  size : W.heap.size ≤ W'.heap.size
  same : ∀ k, (Kx k ∨ lo ≤ k ∧ k < hi) → k < W.heap.size → W'.heap[k]? = W.heap[k]?
section
variable {Kx : Nat → Prop} {lo hi : Nat}
theorem Held.refl (W : World) : Held Kx lo hi W W := ⟨Nat.le_refl _, fun _ _ _ => rfl⟩
theorem Held.trans {A B C : World} (h : Held Kx lo hi A B) (k : Held Kx lo hi B C) : Held Kx lo hi A C :=
  ⟨Nat.le_trans h.size k.size, fun i h1 h3 => (k.same i h1 (Nat.lt_of_lt_of_le h3 h.size)).trans (h.same i h1 h3)⟩
theorem Held.less {lo' hi' : Nat} {A B : World} (h : Held Kx lo hi A B) (h1 : lo ≤ lo') (h2 : hi' ≤ hi) : Held Kx lo' hi' A B := ⟨h.size, fun i a c => h.same i (a.elim .inl fun a => .inr (by omega)) c⟩
theorem Held.grown {A B : World} {row : Option Nat} (h : A.grownBy B row) (hr : ∀ r, row = some r → ¬ Kx r ∧ (r < lo ∨ hi ≤ r)) : Held Kx lo hi A B :=
  ⟨h.size, fun i h1 h3 => h.block i h3 fun e => by have := hr i e.symm; rcases h1 with h1 | h1; exact this.1 h1; omega⟩
theorem Held.below {B : Nat} {X Y : World} (h : Below B X Y) (hK : ∀ k, Kx k → k < B) (hB : hi ≤ B) : Held Kx lo hi X Y :=
  ⟨h.size, fun i h1 h3 => h.block i (h1.elim (hK i) fun h => by omega)⟩
theorem Held.at {A B : World} (h : Held Kx lo hi A B) {k : Nat} {o : Obj} (h1 : Kx k ∨ lo ≤ k ∧ k < hi) (hk : A.heap[k]? = some o) : B.heap[k]? = some o :=
  (h.same k h1 (Array.getElem?_eq_some_iff.1 hk).1).trans hk
end
/-- what is said does not mind new blocks, nor what becomes of the blocks from lo on, ahead of hi -/
def Bears {β : Type} (lo hi : Nat) (J : β → World → Prop) : Prop :=
  ∀ s W W' row, J s W → W.grownBy W' row → (∀ r, row = some r → lo ≤ r ∧ r < hi) → J s W'
theorem Bears.alloc {β : Type} {lo hi : Nat} {J : β → World → Prop} (h : Bears lo hi J) {s : β} {W : World} (o : Obj) (hs : J s W) : J s (W.alloc o) :=
  h s W _ none hs (World.grownBy_alloc W o none) (fun r e => by cases e)
theorem Bears.putObj {β : Type} {lo hi : Nat} {J : β → World → Prop} (h : Bears lo hi J) {s : β} {W : World} {k : Nat} (o : Obj) (hs : J s W) (h1 : lo ≤ k) (h2 : k < hi) : J s (W.putObj k o) :=
  h s W _ (some k) hs (grownBy_putObj' W k o) (fun r e => by cases e; exact ⟨h1, h2⟩)

/-- THE ITERATOR's WORD: all of S comes, one by one, or a part of it, a round having said 'no more'. Its own state lies in the m blocks that it lays first. -/
def EachK {α : Type} (n : Nat) (P : Program) (g : Nat) (lb : Array Value) (m : Nat) (Kx : Nat → Prop) (S : List α) (arg : Nat → α → Value → World → Prop) (w : World) : Prop :=
  ∀ (l : Nat) (J Jx : List α → World → Prop) (W : World), Below w.heap.size w W → Bears W.heap.size (W.heap.size + m) J → Bears W.heap.size (W.heap.size + m) Jx →
    (∀ pre x v W1, J pre W1 → pre ++ [x] <+: S → arg (W.heap.size + m) x v W1 → W.heap.size + m ≤ W1.heap.size → YieldAt Fence.wide n P l #[v] W1 fun e W' =>
      (e = .returned (.bool true) ∧ J (pre ++ [x]) W' ∧ Held Kx W.heap.size (W.heap.size + m) W1 W') ∨ (e = .returned (.bool false) ∧ Jx (pre ++ [x]) W')) →
    J [] W →
    CallsIn Fence.wide n P g (#[.func (.yield l) #[] #[]] ++ lb) W fun e W' => (∃ v, e = .returned v) ∧ (J S W' ∨ ∃ pre, pre <+: S ∧ Jx pre W')

/-- how the body of a round may be left -/
def eachPost {α : Type} (Kx : Nat → Prop) (lo hi : Nat) (I : List α → World → Prop) (Ix : Code → List α → World → Prop) (xs : List α) (W : World) : Exit → Act → World → Prop
  | .normal, _, W' => Held Kx lo hi W W' ∧ I xs W'
  | .ret, _, W' => Held Kx lo hi W W' ∧ Ix .ret xs W'
  | .exit id, _, W' => Held Kx lo hi W W' ∧ Ix (.exit id) xs W'
  | .goto t, _, W' => Held Kx lo hi W W' ∧ Ix (.goto t) xs W'
  | .panic _, _, _ => False
  | .outgrown, _, _ => False

theorem wide_round : Fence.wide.round = none := rfl
theorem wide_depth : Fence.wide.depth = none := rfl

/-- THE LOOP. -/
theorem wpIn_each {P : Program} {n : Nat} {α : Type} {g : Operand} {p : Tmp} {assign body : Code} {Q : Exit → Act → World → Prop} {a : Act} {w : World} {gf : Nat} {lb : Array Value}
    (hg : a.eval g = .func (.func gf) #[] lb) (eg : ∀ args w, (callFunc gf args).run P w = .ok (.enter gf args) w)
    {m : Nat} {Kx : Nat → Prop} {S : List α} {arg : Nat → α → Value → World → Prop} {w0 : World} (hseq : EachK n P gf lb m Kx S arg w0) (hb0 : Below w0.heap.size w0 w) (hKx : ∀ k, Kx k → k < w.heap.size)
    (harg : ∀ B x v W W' row, arg B x v W → W.grownBy W' row → (∀ r, row = some r → r + m < B) → arg B x v W')
    (I : List α → World → Prop) (Ix : Code → List α → World → Prop) (hI : Bears w.heap.size (w.heap.size + 2 + m) I) (hIx : ∀ c, Bears w.heap.size (w.heap.size + 2 + m) (Ix c)) (h0 : I [] w) (a₁ : Value → Act)
    (hassign : ∀ (l : Nat) (v : Value) (W : World) (K : Act → World → Prop), K (a₁ v) W →
      assign.wpIn (Fence.wide.inRound l) n P (Exit.then K (fun _ _ _ => False)) { tmps := a.tmps.setIfInBounds p v, defers := [] } W)
    (hbody : ∀ (l : Nat) (pre : List α) (x : α) (v : Value) (W : World), w.heap.size + 2 + m ≤ W.heap.size → I pre W → pre ++ [x] <+: S → arg (w.heap.size + 2 + m) x v W →
      body.wpIn (Fence.wide.inRound l) n P (eachPost Kx w.heap.size (w.heap.size + 2 + m) I Ix (pre ++ [x]) W) (a₁ v) W)
    (hdone : ∀ (W : World), I S W → W.heap[w.heap.size]? = some (.deferred (some [])) → Q .normal { a with defers := { target := .collected w.heap.size, args := #[] } :: a.defers } W)
    (hstop : ∀ (c : Code) (pre : List α) (W : World), pre <+: S → Ix c pre W → W.heap[w.heap.size]? = some (.deferred (some [])) → c.wpIn Fence.wide n P Q { a with defers := { target := .collected w.heap.size, args := #[] } :: a.defers } W) :
    (Code.rangeFunc g #[p] assign body).wpIn Fence.wide n P Q a w := by
  refine wpIn_rangeFunc fun fn hfn => ?_
  rw [wide_round]
  let rec0 : LoopState → Option Code → Loop := fun st pe => { state := st, pending := pe, fn := fn, tmps := a.tmps, params := #[p], assign := assign, body := body, defers := w.heap.size }
  obtain ⟨rc, hrc⟩ : ∃ rc, rc = rec0 := ⟨_, rfl⟩
  have rstate : ∀ st pe, (rc st pe).state = st := fun st pe => by rw [hrc]
  have rpend : ∀ st pe, (rc st pe).pending = pe := fun st pe => by rw [hrc]
  have rnext : ∀ st pe st' pe', ({ rc st pe with state := st', pending := pe' } : Loop) = rc st' pe' := fun st pe st' pe' => by rw [hrc]
  have rbusy : ∀ pe, ({ rc .ready pe with state := .busy } : Loop) = rc .busy pe := fun pe => by rw [hrc]
  obtain ⟨W1, hW1⟩ : ∃ W1, W1 = (w.alloc (.deferred (some []))).alloc (.loop (rc .ready none)) := ⟨_, rfl⟩
  have hs1 : W1.heap.size = w.heap.size + 2 := by rw [hW1]; simp
  have hL : W1.heap[w.heap.size + 1]? = some (.loop (rc .ready none)) := by
    rw [hW1]; have := World.alloc_heap_new (w.alloc (.deferred (some []))) (.loop (rc .ready none)); rwa [World.size_alloc] at this
  have hM : W1.heap[w.heap.size]? = some (.deferred (some [])) := by
    rw [hW1]; exact (Below.heap_alloc _ _ _ (by simp)).trans (World.alloc_heap_new w _)
  have hI1 : I [] W1 := by rw [hW1]; exact hI.alloc _ (hI.alloc _ h0)
  have hbel : Below w0.heap.size w0 W1 := by
    rw [hW1]; exact hb0.trans ((((Below.refl _ w).alloc (Nat.le_refl _) _).alloc (by simp) _).mono hb0.size)
  have hkeep : ∀ {A B : World} {row : Option Nat} {k : Nat} {o : Obj}, A.grownBy B row → (∀ r, row = some r → W1.heap.size ≤ r ∧ r < W1.heap.size + m) → k < w.heap.size + 2 → A.heap[k]? = some o → B.heap[k]? = some o := fun hg' hr hk ho =>
    (hg'.block _ (Array.getElem?_eq_some_iff.1 ho).1 fun e => by have := (hr _ e.symm).1; omega).trans ho
  refine ⟨w.heap.size + 1, [{ target := .collected w.heap.size, args := #[] }], W1, { target := .fn (.func gf) lb, args := #[.func (.yield (w.heap.size + 1)) #[] #[]] }, W1, gf,
    #[.func (.yield (w.heap.size + 1)) #[] #[]] ++ lb, W1, ?_, ?_, ?_, ?_, ?_, ?_⟩
  · rw [hW1, hrc]; exact run_enterLoop_outer _ _ _ _ _
  · simp only [resolve, hg]
    simp [go_sem]
  · intro f' hf'; trivial
  · simp [invoke, go_sem, eg]
  · intro h; simp [wide_depth] at h
  · refine callsIn_wide.2 (callsIn_wide.1 ((hseq (w.heap.size + 1)
      (fun pre W => I pre W ∧ W.heap[w.heap.size + 1]? = some (.loop (rc .ready none)) ∧ W.heap[w.heap.size]? = some (.deferred (some [])))
      (fun pre W => ∃ c, Ix c pre W ∧ W.heap[w.heap.size + 1]? = some (.loop (rc .done (some c))) ∧ W.heap[w.heap.size]? = some (.deferred (some [])))
      W1 hbel
      (fun s A B row hs hg' hr => ⟨hI s A B row hs.1 hg' (fun r e => by have := hr r e; omega), hkeep hg' hr (by omega) hs.2.1, hkeep hg' hr (by omega) hs.2.2⟩)
      (fun s A B row hs hg' hr => by
        obtain ⟨c, hc, hl, hk⟩ := hs
        exact ⟨c, hIx c s A B row hc hg' (fun r e => by have := hr r e; omega), hkeep hg' hr (by omega) hl, hkeep hg' hr (by omega) hk⟩)
      ?_ ⟨hI1, hL, hM⟩).mono ?_))
    · rintro pre x v W ⟨hi, hl, hk⟩ hpre ha hsz
      have hlt : w.heap.size + 1 < W.heap.size := (Array.getElem?_eq_some_iff.1 hl).1
      have hy := run_yield (P := P) (args := #[v]) hl (by rw [hrc]; rfl)
      refine ⟨fn, (a.tmps.setIfInBounds p v), assign, body, by rw [hy, hrc]; simp [rec0], ?_⟩
      refine roundIn_of_wpIn hfn (hassign _ v W _ ⟨_, run_beginRound hl (rstate _ _), ?_⟩)
      rw [rbusy]
      obtain ⟨W2, hW2⟩ : ∃ W2, W2 = W.putObj (w.heap.size + 1) (.loop (rc .busy none)) := ⟨_, rfl⟩
      have hl2 : W2.heap[w.heap.size + 1]? = some (.loop (rc .busy none)) := by rw [hW2]; exact World.putObj_heap_same hlt
      have hk2 : W2.heap[w.heap.size]? = some (.deferred (some [])) := by rw [hW2]; exact (World.putObj_heap_other (by omega)).trans hk
      have hg2 : W.grownBy W2 (some (w.heap.size + 1)) := by rw [hW2]; exact grownBy_putObj' _ _ _
      have hi2 : I pre W2 := hI _ _ _ _ hi hg2 (fun r e => by cases e; omega)
      have ha2 : arg (w.heap.size + 2 + m) x v W2 := harg _ _ _ _ _ _ (by rw [hs1] at ha; exact ha) hg2 (fun r e => by cases e; omega)
      have hz2 : w.heap.size + 2 + m ≤ W2.heap.size := by have := hg2.size; omega
      rw [← hW2]
      refine wpIn_mono (hbody _ pre x v W2 hz2 hi2 hpre ha2) ?_
      have fin : ∀ (jump : Option Code) (W3 : World), Held Kx w.heap.size (w.heap.size + 2 + m) W2 W3 →
          (Instr.endRound (w.heap.size + 1) jump).run P W3 = .ok (.bool jump.isNone) (W3.putObj (w.heap.size + 1) (.loop (rc (if jump.isNone then .ready else .done) jump))) ∧
          W3.grownBy (W3.putObj (w.heap.size + 1) (.loop (rc (if jump.isNone then .ready else .done) jump))) (some (w.heap.size + 1)) ∧
          (W3.putObj (w.heap.size + 1) (.loop (rc (if jump.isNone then .ready else .done) jump))).heap[w.heap.size + 1]? = some (.loop (rc (if jump.isNone then .ready else .done) jump)) ∧
          (W3.putObj (w.heap.size + 1) (.loop (rc (if jump.isNone then .ready else .done) jump))).heap[w.heap.size]? = some (.deferred (some [])) := fun jump W3 h3 => by
        have hl3 := h3.at (.inr (by omega)) hl2
        have hk3 := h3.at (.inr (by omega)) hk2
        have hr := run_endRound (P := P) jump hl3
        rw [rnext] at hr
        exact ⟨hr, grownBy_putObj' _ _ _, World.putObj_heap_same (Array.getElem?_eq_some_iff.1 hl3).1, (World.putObj_heap_other (by omega)).trans hk3⟩
      have hin : ∀ r, some (w.heap.size + 1) = some r → w.heap.size ≤ r ∧ r < w.heap.size + 2 + m := fun r e => by cases e; omega
      rintro e a3 W3 hp
      cases e with
      | normal =>
        obtain ⟨h3, hi3⟩ := hp
        obtain ⟨hr, hg3, hl4, hk4⟩ := fin none W3 h3
        refine ⟨_, _, hr, .inl ⟨rfl, ⟨hI _ _ _ _ hi3 hg3 hin, hl4, hk4⟩, ?_⟩⟩
        rw [hs1]
        exact ((Held.grown hg2 fun r e => by cases e; exact ⟨fun h => by have := hKx _ h; omega, by omega⟩).trans (h3.less (by omega) (by omega))).trans (Held.grown hg3 fun r e => by cases e; exact ⟨fun h => by have := hKx _ h; omega, by omega⟩)
      | ret =>
        obtain ⟨h3, hi3⟩ := hp
        obtain ⟨hr, hg3, hl4, hk4⟩ := fin (some .ret) W3 h3
        exact ⟨_, _, hr, .inr ⟨rfl, .ret, hIx _ _ _ _ _ hi3 hg3 hin, hl4, hk4⟩⟩
      | exit id =>
        obtain ⟨h3, hi3⟩ := hp
        obtain ⟨hr, hg3, hl4, hk4⟩ := fin (some (.exit id)) W3 h3
        exact ⟨_, _, hr, .inr ⟨rfl, .exit id, hIx _ _ _ _ _ hi3 hg3 hin, hl4, hk4⟩⟩
      | goto t =>
        obtain ⟨h3, hi3⟩ := hp
        obtain ⟨hr, hg3, hl4, hk4⟩ := fin (some (.goto t)) W3 h3
        exact ⟨_, _, hr, .inr ⟨rfl, .goto t, hIx _ _ _ _ _ hi3 hg3 hin, hl4, hk4⟩⟩
      | panic ch => exact hp.elim
      | outgrown => exact hp.elim
    · have hin : ∀ r, some (w.heap.size + 1) = some r → w.heap.size ≤ r ∧ r < w.heap.size + 2 + m := fun r e => by cases e; omega
      rintro e W2 ⟨⟨v, rfl⟩, (⟨hi, hl, hk⟩ | ⟨pre, hpre, c, hi, hl, hk⟩)⟩
      · have hr := run_endLoop (P := P) hl (by rw [rstate]; simp)
        rw [rpend] at hr
        exact ⟨none, _, hr, hdone _ (hI _ _ _ _ hi (grownBy_putObj' _ _ _) hin) ((World.putObj_heap_other (by omega)).trans hk)⟩
      · have hr := run_endLoop (P := P) hl (by rw [rstate]; simp)
        rw [rpend] at hr
        exact ⟨some c, _, hr, hstop c pre _ hpre (hIx _ _ _ _ _ hi (grownBy_putObj' _ _ _) hin) ((World.putObj_heap_other (by omega)).trans hk)⟩
#print axioms wpIn_each
end Go.Proofs.Ytjmjnodaohbpfaa.each

/-
  Contracts of slices.Clone over numbers, and of comb.Each: its picks come one by one.
-/
namespace Go.Proofs.Ytjmjnodaohbpfaa.comb
open Go.ChangeShapes Go.WideShapes Go.ChangeAt Go.RowKit Go.Proofs.Ytjmjnodaohbpfaa.kit Go.Proofs.Ytjmjnodaohbpfaa.each Go.Deep
set_option linter.unusedVariables false
set_option maxRecDepth 100000

theorem Clone_list (b off n c : Nat) (l : List Nat) (w : World) (h : ∀ j u, (l.map encN)[j]? = some u → w.cell? ⟨b, off + j, none⟩ = some u) (hn : l.length = n) (hn2 : n ≤ 8192) (hb : b < w.heap.size) :
    Calls Try.prog 40 #[.slice (some ⟨b, off, none⟩) n c] w fun e w' => ∃ v, e = .returned v ∧ w'.ownsRow w.heap.size 3 1 v n (l.map encN) ∧ New w w' := by
  obtain ⟨i0, hi0, hz0, hz1, hz2⟩ := info_parts infoInt
  have hsrc : Hid (∀ j u, (l.map encN)[j]? = some u → (w.alloc (.cells #[] 3)).cell? ((⟨b, off, none⟩ : Addr).add j) = some u) := fun j u hu => by
    rw [add_cell]
    exact (((New.refl w).alloc _).cell (p := ⟨b, off + j, none⟩) hb).trans (h j u hu)
  have hone := Lib.hid (oneCell_ints l)
  have hlen : Hid ((l.map encN).length = n) := by show _ = _; simp [hn]
  have hlit := World.ownsRow_lit (e := 3) (size := 1) w #[] 0 (Nat.le_refl _) (by unfold maxLen; omega) rfl
  have hnb := fun w => Lib.run_eql_slice_nil (P := Try.prog) w 29 3 (some ⟨b, off, none⟩) n c 0 0 Try.underlying29
  clear h hn
  go_enter Try.func40, Try.ntmps40
  go_wp2_with (at_builtin; refine wpList_append_own _ rfl _ _ 29 rfl w.heap.size 3 i0 _ 1 8 Try.underlying29 hi0 hz0 hz1 hz2 rfl (by decide) (Value.slice (some ⟨w.heap.size, 0, none⟩) 0 0) 0 [] rfl hlit ⟨b, off, none⟩ n c (l.map encN) rfl (by rw [hlen.out]; omega) hsrc.out hone.out (by unfold maxLen; omega) (by omega) (by simp) ?_; intro v3 w3 hown3 hgrow hnil)
  have hgA : (w.alloc (.cells #[] 3)).grownBy w3 (some w.heap.size) := hgrow
  have hN : New w w3 := (New.refl w).append' hgA (fun g hg => by cases hg; exact Nat.le_refl _)
  rw [List.nil_append, Nat.zero_add] at hown3
  have hfin := Lib.hid (And.intro hown3 hN)
  clear hgrow hnil hown3
  go_wp2
  go_ret
  exact ⟨v3, rfl, hfin.out.1, hfin.out.2⟩

/-- what the iterator's own blocks hold: yield, the pick's row, the pick, the inner function; and the boxes of n and k -/
structure Priv (B bn bk l k n : Nat) (q : List Nat) (W : World) : Prop where
  yb : Boxed W B 83 (.func (.yield l) #[] #[])
  row : W.ownsRow (B + 1) 3 1 (.slice (some ⟨B + 1, 0, none⟩) q.length k) q.length (q.map encN)
  pick : Boxed W (B + 2) 29 (.slice (some ⟨B + 1, 0, none⟩) q.length k)
  walk : Boxed W (B + 3) 44 (.func (.func 57) #[] #[.pointer (some ⟨B + 2, 0, none⟩), .pointer (some ⟨bk, 0, none⟩), .pointer (some ⟨B, 0, none⟩), .pointer (some ⟨bn, 0, none⟩), .pointer (some ⟨B + 3, 0, none⟩)])
  nb : Boxed W bn 3 (.int .i64 n)
  kb : Boxed W bk 3 (.int .i64 k)
  nlt : bn < B
  klt : bk < B
abbrev Kn (bn bk : Nat) : Nat → Prop := fun i => i = bn ∨ i = bk
theorem Boxed.held {Kx : Nat → Prop} {lo hi b : Nat} {t : TypeId} {v : Value} {W W' : World} (h : Boxed W b t v) (hh : Held Kx lo hi W W') (hb : Kx b ∨ lo ≤ b ∧ b < hi) : Boxed W' b t v := hh.at hb h
theorem own_held {Kx : Nat → Prop} {lo hi g n c m base s : Nat} {e : TypeId} {xs : List Value} {W W' : World} (h : W.ownsRow base e s (.slice (some ⟨g, 0, none⟩) n c) m xs) (hh : Held Kx lo hi W W') (hb : lo ≤ g ∧ g < hi) : W'.ownsRow base e s (.slice (some ⟨g, 0, none⟩) n c) m xs := by
  refine ⟨h.1, ?_⟩
  rcases h.2 with h0 | ⟨g', cap, cur, he, hb', hg, hr⟩
  · exact .inl h0
  · cases he
    exact .inr ⟨g, c, cur, rfl, hb', hh.at (.inr hb) hg, hr⟩
theorem Priv.held {B bn bk l k n : Nat} {q : List Nat} {W W' : World} (h : Priv B bn bk l k n q W) (hh : Held (Kn bn bk) B (B + 4) W W') : Priv B bn bk l k n q W' :=
  ⟨Boxed.held h.yb hh (.inr (by omega)), own_held h.row hh (by omega), Boxed.held h.pick hh (.inr (by omega)), Boxed.held h.walk hh (.inr (by omega)), Boxed.held h.nb hh (.inl (.inl rfl)), Boxed.held h.kb hh (.inl (.inr rfl)), h.nlt, h.klt⟩
/-- what a round is handed -/
def ArgI (B : Nat) (x : List Nat) (v : Value) (W : World) : Prop := W.ownsRow B 3 1 v x.length (x.map encN)
theorem ArgI.kept (m : Nat) : ∀ B x v W W' row, ArgI B x v W → W.grownBy W' row → (∀ r, row = some r → r + m < B) → ArgI B x v W' := by
  intro B x v W W' row h hg hr
  refine World.ownsRow.kept h hg ?_
  by_cases hv : v.ownBlock = none
  · exact .inl hv
  · refine .inr fun e => ?_
    obtain ⟨g, hg⟩ := Option.ne_none_iff_exists'.1 hv
    have h1 := (h.lt g hg).1
    have h2 := hr g (by rw [← e, hg])
    omega
theorem grown_drew (W : World) : W.grownBy W.drew none := ⟨rfl, rfl, rfl, Nat.le_refl _, fun _ _ _ => rfl⟩
theorem Priv.grown {B bn bk l k n : Nat} {q : List Nat} {W W' : World} (h : Priv B bn bk l k n q W) (hg : W.grownBy W' none) : Priv B bn bk l k n q W' := h.held (Held.grown hg fun r e => by cases e)
theorem room_wide (k : Nat) : Fence.wide.room k := fun d h => by rw [wide_depth] at h; cases h
theorem yieldAny {m m' : Nat} {P : Program} {l : Nat} {args : Array Value} {W : World} {R : Ending → World → Prop} (h : YieldAt Fence.wide m P l args W R) : YieldAt Fence.wide m' P l args W R := by
  obtain ⟨fn, tmps, assign, body, hy, hR⟩ := h
  exact ⟨fn, tmps, assign, body, hy, hR.1, fun c cs _ => hR.2 c cs (room_wide _)⟩
/-- how the inner function ends -/
def WalkP (J Jx : List (List Nat) → World → Prop) (pre that : List (List Nat)) (Pv : World → Prop) (b : Bool) (W' : World) : Prop :=
  match b with
  | true => J (pre ++ that) W' ∧ Pv W'
  | false => ∃ z, z <+: that ∧ Jx (pre ++ z) W'
end Go.Proofs.Ytjmjnodaohbpfaa.comb

/-
  comb.Each: the inner function walk, by induction on how many numbers are still to be picked; the iterator's word.
-/
namespace Go.Proofs.Ytjmjnodaohbpfaa.comb
open Go.ChangeShapes Go.WideShapes Go.ChangeAt Go.RowKit Go.Proofs.Ytjmjnodaohbpfaa.kit Go.Proofs.Ytjmjnodaohbpfaa.each Go.Deep
set_option linter.unusedVariables false
set_option maxRecDepth 100000
attribute [local go_sem] Oper.semAt_some

def EndsB (P : Bool → World → Prop) (e : Ending) (w : World) : Prop := ∃ b : Bool, e = .returned (.bool b) ∧ P b w
/-- what the rounds promise -/
def Rounds (m l B bn bk : Nat) (S : List (List Nat)) (J Jx : List (List Nat) → World → Prop) : Prop :=
  ∀ pre x v W1, J pre W1 → pre ++ [x] <+: S → ArgI (B + 4) x v W1 → B + 4 ≤ W1.heap.size → YieldAt Fence.wide m Try.prog l #[v] W1 fun e W' =>
    ∃ b : Bool, e = .returned (.bool b) ∧ (match b with | true => J (pre ++ [x]) W' ∧ Held (Kn bn bk) B (B + 4) W1 W' | false => Jx (pre ++ [x]) W')
abbrev caps (B bn bk : Nat) (f : Value) : Array Value := #[f, .pointer (some ⟨B + 2, 0, none⟩), .pointer (some ⟨bk, 0, none⟩), .pointer (some ⟨B, 0, none⟩), .pointer (some ⟨bn, 0, none⟩), .pointer (some ⟨B + 3, 0, none⟩)]
theorem New.grow {a b : World} (h : New a b) : a.grownBy b none := ⟨h.os, h.tape, h.output, h.size, fun k hk _ => h.block k hk⟩
set_option maxHeartbeats 1000000 in
theorem walk_end {m l B bn bk n k : Nat} {S : List (List Nat)} {J Jx : List (List Nat) → World → Prop} (hk : k ≤ 12) (hJ : Bears B (B + 4) J) (hY : Rounds m l B bn bk S J Jx) (q : List Nat) (hq : q.length = k) (f : Nat) (pre : List (List Nat)) (W : World)
    (hP : Priv B bn bk l k n q W) (h0 : J pre W) (hpre : pre ++ [q] <+: S) :
    CallsIn Fence.wide m Try.prog 57 (caps B bn bk (.int .i64 f)) W (EndsB (WalkP J Jx pre [q] (Priv B bn bk l k n q))) := by
  have hmix : Try.prog.follows .mixedOrders = true := by kernel_rfl
  have hdd : ∀ k : Nat, (Fence.wide.depth.isSome = true → 1 ≤ k) := fun k h => by rw [wide_depth] at h; cases h
  have hpc := hP.pick.cell
  have hkc := hP.kb.cell
  have hyc := hP.yb.cell
  rw [hq] at hpc
  have hlt : B + 3 < W.heap.size := hP.walk.lt
  have hrow := hP.row
  rw [hq] at hrow
  have hcl := Lib.hid (fun (w' : World) (hn : New W w') => Clone_list (B + 1) 0 k k q w' (fun j u hu => by
      rw [Nat.zero_add]
      refine (hn.cell (p := ⟨B + 1, j, none⟩) (by show B + 1 < _; omega)).trans ?_
      have := hrow.cells rfl j u hu
      rw [add_cell] at this
      simpa using this) hq (by omega) (by have := hn.size; omega))
  have hPH := Lib.hid hP
  have hJH := Lib.hid h0
  clear hP hrow h0
  refine callsIn_of_wp Try.func57 rfl trivial ?_ rfl; simp only [Try.ntmps57, List.size_toArray, List.length_cons, List.length_nil, Nat.reduceAdd, Nat.reduceSub, Array.replicate_succ, Array.replicate_zero, List.push_toArray, List.append_toArray, List.nil_append, List.cons_append]
  gi_wp2
  gi_region_with (first
    | (refine ⟨trivial, hdd _, ?_⟩; gi_at_call 40; refine (callsIn_wide.2 (hcl.out _ (by exact (New.refl W).drew))).mono ?_
       rintro e w1 ⟨v1, rfl, hown1, hn1⟩
       have hy1 := (hn1.cell (p := ⟨B, 0, none⟩) (by show B < _; simp; omega)).trans hyc
       have hg1 : W.grownBy w1 none := (New.grow (New.next (New.drew (New.refl W)) hn1))
       obtain ⟨fn, tmps, assign, body, hy, hR⟩ := yieldAny (m' := m - 1) (hY pre q v1 w1 (hJ _ _ _ _ hJH.out hg1 (fun r e => by cases e)) hpre (by show World.ownsRow _ _ _ _ _ _ _; rw [hq]; exact hown1.mono (by simp; omega)) (by have := hg1.size; omega)))
    | (refine ⟨hdd _, ?_⟩; refine hR.mono ?_; clear hR; rintro e W2 ⟨b, rfl, hb⟩))
  all_goals
    have hfin : Hid (WalkP J Jx pre [q] (Priv B bn bk l k n q) b W2) := by
      cases b with
      | true => exact ⟨hb.1, (hPH.out.grown hg1).held hb.2⟩
      | false => exact ⟨[q], List.prefix_refl _, hb⟩
    clear hb
    gi_wp2
    go_ret
    exact ⟨b, rfl, hfin.out⟩
theorem pickL_short : ∀ (d f k : Nat), d < k → pickL d f k = []
  | 0, f, k + 1, _ => rfl
  | d + 1, f, k + 1, h => by rw [pickL_succ, pickL_short d (f + 1) k (by omega), pickL_short d (f + 1) (k + 1) (by omega)]; rfl
theorem own_less {w : World} {base g c n : Nat} {e : TypeId} {xs : List Value} {x : Value} (h : w.ownsRow base e 1 (.slice (some ⟨g, 0, none⟩) (n + 1) c) (n + 1) (xs ++ [x])) : w.ownsRow base e 1 (.slice (some ⟨g, 0, none⟩) n c) n xs := by
  have hl := h.1
  simp at hl
  refine ⟨by omega, ?_⟩
  rcases h.2 with ⟨h0, _⟩ | ⟨g', cap, cur, he, hb, hg, h1, h2, h3, h4⟩
  · cases h0
  · cases he
    refine .inr ⟨g, c, cur, rfl, hb, hg, by omega, h2, h3, ?_⟩
    rw [Nat.mul_one] at h4 ⊢
    have h5 : cur.toList.take n = (cur.toList.take (n + 1)).take n := by rw [List.take_take, Nat.min_eq_left (by omega)]
    rw [h5, h4, List.take_append_of_le_length (by omega), List.take_of_length_le (by omega)]
abbrev ext (q : List Nat) (L : List (List Nat)) : List (List Nat) := L.map (fun l => q ++ l)
theorem ext_here (q : List Nat) (x d kk : Nat) : ext q (pickL (d + 1) x (kk + 1)) = ext (q ++ [x]) (pickL d (x + 1) kk) ++ ext q (pickL d (x + 1) (kk + 1)) := by
  unfold ext
  rw [pickL_succ, List.map_append, List.map_map]
  congr 1
  apply List.map_congr_left
  intro l _
  simp
set_option maxHeartbeats 2000000 in
theorem walk_step {m l B bn bk n k : Nat} {S : List (List Nat)} {J Jx : List (List Nat) → World → Prop} (hn : n ≤ 12) (hk : k ≤ n) (hJ : Bears B (B + 4) J) (kk : Nat)
    (ih : ∀ (m f : Nat) (fi : Int) (q : List Nat) (pre : List (List Nat)) (W : World), fi = f → f ≤ n → q.length + kk = k → Priv B bn bk l k n q W → J pre W → pre ++ ext q (pickL (n - f) f kk) <+: S →
      CallsIn Fence.wide m Try.prog 57 (caps B bn bk (.int .i64 fi)) W (EndsB (WalkP J Jx pre (ext q (pickL (n - f) f kk)) (Priv B bn bk l k n q))))
    (f : Nat) (hf : f ≤ n) (q : List Nat) (hq : q.length + (kk + 1) = k) (pre : List (List Nat)) (W : World)
    (hP : Priv B bn bk l k n q W) (h0 : J pre W) (hpre : pre ++ ext q (pickL (n - f) f (kk + 1)) <+: S) :
    CallsIn Fence.wide m Try.prog 57 (caps B bn bk (.int .i64 f)) W (EndsB (WalkP J Jx pre (ext q (pickL (n - f) f (kk + 1))) (Priv B bn bk l k n q))) := by
  have hdd : ∀ k : Nat, (Fence.wide.depth.isSome = true → 1 ≤ k) := fun k h => by rw [wide_depth] at h; cases h
  obtain ⟨i0, hi0, hz0, hz1, hz2⟩ := info_parts infoInt
  obtain ⟨p, hp⟩ : ∃ p, Hid (p = q.length) := ⟨_, rfl⟩
  have hpk : p + kk + 1 = k := by rw [hp.out]; omega
  have hpk1 : ((p : Int) == (k : Int)) = false := by simp; omega
  have hpc := hP.pick.cell
  have hkc := hP.kb.cell
  rw [← hp.out] at hpc
  obtain ⟨that, hthat⟩ : ∃ that, Hid (that = ext q (pickL (n - f) f (kk + 1))) := ⟨_, rfl⟩
  rw [← hthat.out] at hpre ⊢
  have hPH := Lib.hid hP
  have hJH := Lib.hid h0
  have hprH := Lib.hid hpre
  have hpkH := Lib.hid hpk
  have hpk2 : p ≤ k := by omega
  clear hP h0 hpre hpk hq
  refine callsIn_of_wp Try.func57 rfl trivial ?_ rfl; simp only [Try.ntmps57, List.size_toArray, List.length_cons, List.length_nil, Nat.reduceAdd, Nat.reduceSub, Array.replicate_succ, Array.replicate_zero, List.push_toArray, List.append_toArray, List.nil_append, List.cons_append]
  gi_wp2
  gi_loopw [8] (fun c wr => ∃ (x : Nat) (dn : List (List Nat)), c = .int .i64 x ∧ x ≤ n + 1 ∧ Hid (that = dn ++ ext q (pickL (n - x) x (kk + 1))) ∧ Hid (J (pre ++ dn) wr) ∧ Hid (Priv B bn bk l k n q wr)) (fun c _ => n + 1 - (intOf c).toNat)
  case atStart => exact ⟨f, [], rfl, by omega, by rw [hthat.out]; exact rfl, by simpa using hJH, hPH⟩
  case round =>
    obtain ⟨x, dn, rfl, hx, hth, hJr, hPr⟩ := hrel
    have c1 := hPr.out.pick.cell
    have c2 := hPr.out.kb.cell
    have c3 := hPr.out.nb.cell
    rw [← hp.out] at c1
    by_cases hle : x + (kk + 1) ≤ n
    · have hle1 : (x : Int) ≤ (n : Int) - ((k : Int) - (p : Int)) := by have := hpkH.out; omega
      obtain ⟨d, hd⟩ : ∃ d, Hid (n - x = d + 1) := ⟨n - x - 1, by show n - x = n - x - 1 + 1; omega⟩
      obtain ⟨L1, hL1⟩ : ∃ L1, Hid (L1 = ext (q ++ [x]) (pickL d (x + 1) kk)) := ⟨_, rfl⟩
      have hth2 : Hid (that = dn ++ L1 ++ ext q (pickL d (x + 1) (kk + 1))) := by
        show _ = _
        rw [hth.out, hd.out, ext_here, hL1.out, List.append_assoc]
      have hnx : n - (x + 1) = d := by have := hd.out; omega
      have hpr1 : Hid (pre ++ dn ++ L1 <+: S) := by
        refine List.IsPrefix.trans ?_ hprH.out
        rw [hth2.out]
        exact ⟨ext q (pickL d (x + 1) (kk + 1)), by simp [List.append_assoc]⟩
      have ih1 := Lib.hid (fun W h1 h2 => ih (m - 1) (x + 1) ((x : Int) + 1) (q ++ [x]) (pre ++ dn) W (by omega) (by omega) (by have := hpkH.out; have := hp.out; simp; omega) h1 h2 (by rw [hnx, ← hL1.out]; exact hpr1.out))
      rw [hnx, ← hL1.out] at ih1
      have hnxH := Lib.hid hnx
      clear hnx
      have hrow : wr.ownsRow (B + 1) 3 1 (.slice (some ⟨B + 1, 0, none⟩) p k) p (q.map encN) := by have := hPr.out.row; rw [← hp.out] at this; exact this
      have hBs : B + 3 < wr.heap.size := hPr.out.walk.lt
      gi_wp2_with (first
        | (gi_at_builtin; refine wpListIn_append_fits _ rfl _ _ 29 rfl (B + 1) 3 i0 1 Try.underlying29 hi0 hz1 (B + 1) p k (q.map encN) rfl (hrow.alloc _) ⟨wr.heap.size, 0, none⟩ 1 1 [.int .i64 x] rfl rfl (World.news_of_block (cs := #[.int .i64 _]) (t := 3) (fr := (0, 0)) (heap_alloc_new wr _)) (by simp [Value.oneCell']) (by have := hpkH.out; omega) ?_; intro w1 hown1 hgrow1
           have hb2 : Boxed w1 (B + 2) 29 (.slice (some ⟨B + 1, 0, none⟩) p k) := by have := hPr.out.pick; rw [← hp.out] at this; exact Boxed.kept (this.alloc _) hgrow1 (by simp)
           have hb3 := Boxed.kept (hPr.out.walk.alloc (.cells #[.int .i64 x] 3)) hgrow1 (by simp)
           have e1 := hb2.cell; have e2 := hb2.frozen; have e3 := hb3.cell)
        | fail)
      have hgs : w1.grownBy (w1.setCell ⟨B + 2, 0, none⟩ (.slice (some ⟨B + 1, 0, none⟩) (p + 1) k)) (some (B + 2)) := grownBy_setCell' _ _ _
      have hJ2 := hJ _ _ _ _ (hJ _ _ _ _ (hJ.alloc _ hJr.out) hgrow1 (fun r e => by cases e; omega)) hgs (fun r e => by cases e; omega)
      have hP2 : Priv B bn bk l k n (q ++ [x]) (w1.setCell ⟨B + 2, 0, none⟩ (.slice (some ⟨B + 1, 0, none⟩) (p + 1) k)) := by
        have hql : (q ++ [x]).length = p + 1 := by simp [hp.out]
        have hq0 := hPr.out
        refine ⟨(Boxed.kept (hq0.yb.alloc _) hgrow1 (by simp)).kept hgs (by simp), ?_, ?_, hb3.kept hgs (by simp), (Boxed.kept (hq0.nb.alloc _) hgrow1 ?_).kept hgs ?_, (Boxed.kept (hq0.kb.alloc _) hgrow1 ?_).kept hgs ?_, hq0.nlt, hq0.klt⟩
        · rw [hql, List.map_append]
          exact hown1.kept hgs (.inr (by simp [Value.ownBlock]))
        · rw [hql]
          exact hb2.set _
        · have := hq0.nlt; simp; omega
        · have := hq0.nlt; simp; omega
        · have := hq0.klt; simp; omega
        · have := hq0.klt; simp; omega
      refine ⟨trivial, hdd _, ?_⟩
      refine (ih1.out _ hP2 hJ2).mono ?_
      rintro e w2 ⟨b, rfl, hb⟩
      clear hown1 hgrow1 hgs hJ2 hP2 hb2 hb3 e1 e2 e3 hrow c1 c2 c3
      cases b with
      | false =>
        have hfin : Hid (WalkP J Jx pre that (Priv B bn bk l k n q) false w2) := by
          obtain ⟨z, hz, hjx⟩ := hb
          refine ⟨dn ++ z, ?_, by rw [← List.append_assoc]; exact hjx⟩
          rw [hth2.out, List.append_assoc]
          exact (List.prefix_append_right_inj dn).2 (hz.trans (List.prefix_append _ _))
        clear hb
        gi_wp2
        go_ret
        exact ⟨false, rfl, hfin.out⟩
      | true =>
        have hb1 := Lib.hid hb.1
        have hq1 := Lib.hid hb.2
        clear hb
        have hql : (q ++ [x]).length = p + 1 := by simp [hp.out]
        have g1 := hq1.out.pick.cell
        have g2 := hq1.out.pick.frozen
        rw [hql] at g1
        have hqlH := Lib.hid hql
        clear hql
        have hgs : w2.grownBy (w2.setCell ⟨B + 2, 0, none⟩ (.slice (some ⟨B + 1, 0, none⟩) p k)) (some (B + 2)) := grownBy_setCell' _ _ _
        have hJ3 : Hid (J (pre ++ (dn ++ L1)) (w2.setCell ⟨B + 2, 0, none⟩ (.slice (some ⟨B + 1, 0, none⟩) p k))) := by
          show J _ _
          rw [← List.append_assoc]
          exact hJ _ _ _ _ hb1.out hgs (fun r e => by cases e; omega)
        have hP3 : Hid (Priv B bn bk l k n q (w2.setCell ⟨B + 2, 0, none⟩ (.slice (some ⟨B + 1, 0, none⟩) p k))) := by
          have hq0 := hq1.out
          refine ⟨hq0.yb.kept hgs (by simp), ?_, ?_, hq0.walk.kept hgs (by simp), hq0.nb.kept hgs ?_, hq0.kb.kept hgs ?_, hq0.nlt, hq0.klt⟩
          · have h1 := hq0.row
            rw [hqlH.out, List.map_append] at h1
            have h2 := own_less h1
            rw [← hp.out]
            exact h2.kept hgs (.inr (by simp [Value.ownBlock]))
          · rw [← hp.out]
            exact hq0.pick.set _
          · have := hq0.nlt; simp; omega
          · have := hq0.klt; simp; omega
        clear hgs
        gi_wp2
        go_roundw
        case rel => exact ⟨x + 1, dn ++ L1, by go_num, by omega, by rw [hth2.out, hnxH.out]; exact rfl, hJ3, hP3⟩
        case measure => simp [intOf]; omega
    · have hle1 : ¬ (x : Int) ≤ (n : Int) - ((k : Int) - (p : Int)) := by have := hpkH.out; omega
      have hfin : Hid (WalkP J Jx pre that (Priv B bn bk l k n q) true wr) := by
        have h1 := hth.out
        rw [pickL_short _ _ _ (by omega)] at h1
        simp [ext] at h1
        rw [h1]
        exact ⟨hJr.out, hPr.out⟩
      gi_wp2
      go_ret
      exact ⟨true, rfl, hfin.out⟩
theorem walk_any {l B bn bk n k : Nat} {S : List (List Nat)} {J Jx : List (List Nat) → World → Prop} (hn : n ≤ 12) (hk : k ≤ n) (hJ : Bears B (B + 4) J) (hY : ∀ m, Rounds m l B bn bk S J Jx) : ∀ (kk m f : Nat) (fi : Int) (q : List Nat) (pre : List (List Nat)) (W : World), fi = f → f ≤ n → q.length + kk = k → Priv B bn bk l k n q W → J pre W → pre ++ ext q (pickL (n - f) f kk) <+: S →
      CallsIn Fence.wide m Try.prog 57 (caps B bn bk (.int .i64 fi)) W (EndsB (WalkP J Jx pre (ext q (pickL (n - f) f kk)) (Priv B bn bk l k n q)))
  | 0, m, f, fi, q, pre, W, hfi, hf, hq, hP, h0, hpre => by
    subst hfi
    have he : ext q (pickL (n - f) f 0) = [q] := by rw [pickL_zero]; simp [ext]
    rw [he] at hpre ⊢
    exact walk_end (by omega) hJ (hY m) q (by omega) f pre W hP h0 hpre
  | kk + 1, m, f, fi, q, pre, W, hfi, hf, hq, hP, h0, hpre => by
    subst hfi
    exact walk_step hn hk hJ kk (walk_any hn hk hJ hY kk) f hf q hq pre W hP h0 hpre

/-- the value that Each hands back -/
abbrev eachLb (bn bk : Nat) : Array Value := #[.pointer (some ⟨bk, 0, none⟩), .pointer (some ⟨bn, 0, none⟩)]
set_option maxHeartbeats 1000000 in
theorem each_stops {m : Nat} (n k bn bk : Nat) (w : World) (hn : n ≤ 12) (hk : k ≤ n) (hbn : Boxed w bn 3 (.int .i64 n)) (hbk : Boxed w bk 3 (.int .i64 k)) :
    EachK m Try.prog 56 (eachLb bn bk) 4 (Kn bn bk) (pickL n 0 k) ArgI w := by
  intro l J Jx W hW hJ hJx hY h0
  have hdd : ∀ k : Nat, (Fence.wide.depth.isSome = true → 1 ≤ k) := fun k h => by rw [wide_depth] at h; cases h
  have h1 : Boxed W bn 3 (.int .i64 n) := (hW.block bn hbn.lt).trans hbn
  have h2 : Boxed W bk 3 (.int .i64 k) := (hW.block bk hbk.lt).trans hbk
  have hbn0 := h1.lt
  have hbk0 := h2.lt
  have hmk := run_make_room (P := Try.prog) 29 3 (.int .i64 0) 8 Try.underlying29 infoInt rfl .i64 .i64 k (by omega) (by omega)
  have c2 := h2.cell
  have hY' : ∀ m, Rounds m l W.heap.size bn bk (pickL n 0 k) J Jx := fun m' pre x v W1 hj hp ha hs => yieldAny ((hY pre x v W1 hj hp ha hs).mono fun e W' h => by
    rcases h with ⟨rfl, hj, hh⟩ | ⟨rfl, hx⟩
    · exact ⟨true, rfl, hj, hh⟩
    · exact ⟨false, rfl, hx⟩)
  have hwk := Lib.hid (fun W' hp hj => walk_any (l := l) (B := W.heap.size) hn hk hJ hY' k (m - 1) 0 0 [] [] W' rfl (by omega) (by simp) hp hj (by simp [ext]))
  have hJH := Lib.hid h0
  clear h0 hY hY'
  show CallsIn Fence.wide m Try.prog 56 #[.func (.yield l) #[] #[], .pointer (some ⟨bk, 0, none⟩), .pointer (some ⟨bn, 0, none⟩)] W _
  refine callsIn_of_wp Try.func56 rfl trivial ?_ rfl; simp only [Try.ntmps56, List.size_toArray, List.length_cons, List.length_nil, Nat.reduceAdd, Nat.reduceSub, Array.replicate_succ, Array.replicate_zero, List.push_toArray, List.append_toArray, List.nil_append, List.cons_append]
  gi_wp2_with fail
  refine ⟨trivial, hdd _, ?_⟩
  refine (hwk.out _ ?_ ?_).mono ?_
  · refine ⟨(((Boxed.new W _ _).alloc _).alloc _).alloc _, ?_, ?_, ?_, (((h1.alloc _).alloc _).alloc _).alloc _, (((h2.alloc _).alloc _).alloc _).alloc _, hbn0, hbk0⟩
    · have hr := World.ownsRow_made (base := W.heap.size + 1) (e := 3) (size := 1) (W.alloc (.cells #[.func (.yield l) #[] #[]] 83)) (madeCells #[.int .i64 0] k) k (by simp) (by unfold maxLen; omega) (by rw [size_madeCells]; omega)
      simp only [World.size_alloc] at hr
      exact (hr.alloc _).alloc _
    · have hr := Boxed.new ((W.alloc (.cells #[.func (.yield l) #[] #[]] 83)).alloc (.cells (madeCells #[.int .i64 0] k) 3)) 29 (.slice (some ⟨W.heap.size + 1, 0, none⟩) 0 k)
      simp only [World.size_alloc] at hr
      exact hr.alloc _
    · have hr := Boxed.new (((W.alloc (.cells #[.func (.yield l) #[] #[]] 83)).alloc (.cells (madeCells #[.int .i64 0] k) 3)).alloc (.cells #[.slice (some ⟨W.heap.size + 1, 0, none⟩) 0 k] 29)) 44 (.func (.func 57) #[] #[.pointer (some ⟨W.heap.size + 1 + 1, 0, none⟩), .pointer (some ⟨bk, 0, none⟩), .pointer (some ⟨W.heap.size, 0, none⟩), .pointer (some ⟨bn, 0, none⟩), .pointer (some ⟨W.heap.size + 1 + 1 + 1, 0, none⟩)])
      simp only [World.size_alloc] at hr
      exact hr
  · exact hJ.alloc _ (hJ.alloc _ (hJ.alloc _ (hJ.alloc _ hJH.out)))
  rintro e w2 ⟨b, rfl, hb⟩
  have hfin : Hid (J (pickL n 0 k) w2 ∨ ∃ pre, pre <+: pickL n 0 k ∧ Jx pre w2) := by
    have he : ext [] (pickL (n - 0) 0 k) = pickL n 0 k := by simp [ext]
    rw [he] at hb
    cases b with
    | true => exact .inl (by simpa using hb.1)
    | false => obtain ⟨z, hz, hx⟩ := hb; exact .inr ⟨z, hz, by simpa using hx⟩
  clear hb
  gi_wp2
  go_end0
  exact ⟨⟨_, rfl⟩, hfin.out⟩
theorem Each_any (n k : Int) (w : World) :
    Calls Try.prog 38 #[.int .i64 n, .int .i64 k] w fun e w' => e = .returned (.func (.func 56) #[] (eachLb w.heap.size (w.heap.size + 1))) ∧ w' = (w.alloc (.cells #[.int .i64 n] 3)).alloc (.cells #[.int .i64 k] 3) := by
  go_enter Try.func38, Try.ntmps38
  go_wp2
  go_ret
  exact ⟨rfl, rfl⟩
end Go.Proofs.Ytjmjnodaohbpfaa.comb
