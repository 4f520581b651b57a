/-
  Contract of (*keeper).drop: the loop, in memory.
-/
import Derived.Test.YtiffgeglbafenaaSnapDrop0
import Derived.Test.YtiffgeglbafenaaSnapDelete
import Derived.Test.YtiffgeglbafenaaSnapSort
namespace Go.Proofs.Ytiffgeglbafenaa.snap
open Go.ChangeShapes Go.WideShapes Go.ChangeAt Go.RowKit Go.Proofs.Ytiffgeglbafenaa.kit Go.Deep
set_option linter.unusedVariables false
set_option maxRecDepth 100000
/-- the lists of the dead behind the first rounds -/
def dAt (s : KS) (i : Nat) (P : List Nat) : Nat → List Nat := if i = 0 then s.dead else upd s.dead (i - 1) (s.dead (i - 1) ++ P.filter fun b => !goes s i b)
theorem dAt_nil (s : KS) (i : Nat) : dAt s i [] = s.dead := by
  unfold dAt
  split
  · rfl
  · funext j
    unfold upd
    split
    · rename_i h; subst h; simp
    · rfl
theorem dAt_self (s : KS) (i : Nat) (P : List Nat) : dAt s i P i = s.dead i := by
  unfold dAt
  split
  · rfl
  · rw [upd_ne _ _ (by omega)]
theorem Km.grownR {base kb : Nat} {s : KS} {bv sv : Value} {dv : Nat → Value} {w w' : World} {row : Option Nat} (h : Km base kb s bv sv dv w) (hg : w.grownBy w' row) (hne : ∀ g, KK kb s.m bv sv dv g → row ≠ some g) : Km base kb s bv sv dv w' :=
  h.alt (K := fun k => row = some k) ((Alt.refl w).grown hg fun r e => .inl e) fun g hg e => hne g hg e
/-- in the loop -/
structure Dl (base kb i : Nat) (s : KS) (P : List Nat) (bv sv : Value) (dv0 dv : Nat → Value) (gv : Value) (w0 w : World) : Prop where
  km : Km base kb { s with dead := dAt s i P } bv sv dv w
  go : OwnI w w0.heap.size gv (P.filter fun b => goes s i b)
  ap : ∀ g, KK kb s.m bv sv dv g → gv.ownBlock ≠ some g
  al : Alt (KK kb s.m bv sv dv0) w0 w
  kk : ∀ g, KK kb s.m bv sv dv g → KK kb s.m bv sv dv0 g ∨ w0.heap.size ≤ g
  sl : dv i = dv0 i
  rb : Blk w (w0.heap.size + 1) 35 #[.int .i64 0, .slice none 0 0]
theorem Dl.more {base kb i b : Nat} {s : KS} {P : List Nat} {bv sv : Value} {dv0 dv : Nat → Value} {gv v7 : Value} {w0 w w1 w7 : World} (h : Dl base kb i s P bv sv dv0 dv gv w0 w) (hg : goes s i b = true) (hn : New w w1) (hw : w0.heap.size ≤ w.heap.size) (hgr : w1.grownBy w7 gv.ownBlock)
    (ho : w7.ownsRow w0.heap.size 3 1 v7 ((P.filter fun b => goes s i b).length + 1) (intL (P.filter fun b => goes s i b) ++ [.int .i64 (b : Nat)])) (hl : ∀ g, v7.ownBlock = some g → gv.ownBlock = some g ∨ w1.heap.size ≤ g) :
    Dl base kb i s (P ++ [b]) bv sv dv0 dv v7 w0 w7 := by
  have hf : (P ++ [b]).filter (fun b => goes s i b) = P.filter (fun b => goes s i b) ++ [b] := by simp [hg]
  have hf2 : (P ++ [b]).filter (fun b => !goes s i b) = P.filter (fun b => !goes s i b) := by simp [hg]
  have hd : dAt s i (P ++ [b]) = dAt s i P := by unfold dAt; rw [hf2]
  have go1 := own_new h.go hn
  refine ⟨by rw [hd]; exact (h.km.new hn).grownR hgr h.ap, ?_, fun g hk e => ?_, (h.al.next hn).grown hgr fun r e => .inr (h.go.lt r e).1, h.kk, h.sl, (h.rb.new hn).grown hgr (own_ne_blk go1 (h.rb.new hn) (by decide))⟩
  · rw [hf]
    show World.ownsRow _ _ _ _ _ _ _
    rw [List.length_append, intL_more]
    exact ho
  · rcases hl g e with h1 | h1
    · exact h.ap g hk h1
    · have := (h.km.lt hk).2
      have := hn.size
      omega
/-- .. it dies behind the one ahead -/
theorem Dl.back {base kb i q b gs cs : Nat} {s : KS} {P : List Nat} {bv : Value} {dv0 dv : Nat → Value} {gv v7 : Value} {w0 w w1 w7 : World} (h : Dl base kb i s P bv (.slice (some ⟨gs, 0, none⟩) s.m cs) dv0 dv gv w0 w) (hiq : i = q + 1) (him : i < s.m) (hg : goes s i b = false) (hn : New w w1) (hw : w0.heap.size ≤ w.heap.size) (hgr : w1.grownBy w7 (dv q).ownBlock)
    (ho : w7.ownsRow base 3 1 v7 ((dAt s i P q).length + 1) (intL (dAt s i P q) ++ [.int .i64 (b : Nat)])) (hl : ∀ g, v7.ownBlock = some g → (dv q).ownBlock = some g ∨ w1.heap.size ≤ g) :
    Dl base kb i s (P ++ [b]) bv (.slice (some ⟨gs, 0, none⟩) s.m cs) dv0 (upd dv q v7) gv w0 (w7.setCell ⟨gs, q * 3 + 2, none⟩ v7) := by
  have hf : (P ++ [b]).filter (fun b => goes s i b) = P.filter (fun b => goes s i b) := by simp [hg]
  have hf2 : (P ++ [b]).filter (fun b => !goes s i b) = P.filter (fun b => !goes s i b) ++ [b] := by simp [hg]
  have hd : dAt s i (P ++ [b]) = upd (dAt s i P) q (dAt s i P q ++ [b]) := by
    unfold dAt
    rw [hf2, if_neg (by omega), if_neg (by omega), show i - 1 = q by omega, upd_same]
    funext j
    unfold upd
    split
    · simp
    · rfl
  have hk := h.km.pushD (i := q) (b := b) (by show q < s.m; omega) hn hgr ho hl
  have hqk : ∀ g, (dv q).ownBlock = some g → KK kb s.m bv (.slice (some ⟨gs, 0, none⟩) s.m cs) dv g := fun g e => .inr (.inr (.inr ⟨q, by omega, e⟩))
  have hsk : KK kb s.m bv (.slice (some ⟨gs, 0, none⟩) s.m cs) dv gs := .inr (.inr (.inl rfl))
  have hz := hn.size
  have hkk : ∀ g, KK kb s.m bv (.slice (some ⟨gs, 0, none⟩) s.m cs) (upd dv q v7) g → KK kb s.m bv (.slice (some ⟨gs, 0, none⟩) s.m cs) dv g ∨ w1.heap.size ≤ g := fun g hk => by
    rcases hk with h1 | h1 | h1 | ⟨j, hj, h1⟩
    · exact .inl (.inl h1)
    · exact .inl (.inr (.inl h1))
    · exact .inl (.inr (.inr (.inl h1)))
    · by_cases e : j = q
      · rw [e, upd_same] at h1
        rcases hl g h1 with h2 | h2
        · exact .inl (hqk g h2)
        · exact .inr h2
      · rw [upd_ne _ _ e] at h1
        exact .inl (.inr (.inr (.inr ⟨j, hj, h1⟩)))
  have go7 := own_keepG (own_new h.go hn) hgr fun g hv e => h.ap g (hqk g e) hv
  have rb7 := (h.rb.new hn).grown hgr (own_ne_blk ((h.km.new hn).dd.own q (by show q < s.m; omega)) (h.rb.new hn) (by decide))
  have so7 := own_keepO ((h.km.new hn).so) ((h.km.new hn).dd.own q (by show q < s.m; omega)) (by decide) hgr
  refine ⟨by rw [hd]; exact hk, ?_, fun g hk1 e => ?_, ?_, fun g hk1 => ?_, by rw [upd_ne _ _ (by omega)]; exact h.sl, blk_putS rb7 so7 (by decide) _⟩
  · rw [hf]
    exact own_putS go7 so7 (by decide) _
  · rcases hkk g hk1 with h1 | h1
    · exact h.ap g h1 e
    · have := (h.go.lt g e).2
      omega
  · refine ((h.al.next hn).grown hgr fun r e => ?_).set ?_ _
    · exact h.kk r (hqk r e)
    · exact h.kk gs hsk
  · rcases hkk g hk1 with h1 | h1
    · exact h.kk g h1
    · exact .inr (by omega)
end Go.Proofs.Ytiffgeglbafenaa.snap
