/-
  The reference's state.
-/
import Derived.Test.YtiffgeglbafenaaTreePlay
import Derived.Test.YtiffgeglbafenaaCopyRow
import Derived.Deep.DeepCutAuto
import Derived.Deep.CutBlock
namespace Go.Proofs.Ytiffgeglbafenaa.tree
open Go.ChangeShapes Go.WideShapes Go.ChangeAt Go.RowKit Go.Proofs.Ytiffgeglbafenaa.kit Go.Deep
set_option linter.unusedVariables false
set_option maxRecDepth 100000
/-- the reference's versions and answers -/
structure Rf (B i : Nat) (vs : List Ver) (Q : Nat → Sho) (vv : Value) (sv : Nat → Value) (ov : Value) (dv : Nat → Value) (w : World) : Prop where
  vo : w.ownsRow B 42 1 vv vs.length ((List.range vs.length).map sv)
  vt : ∀ j, j < vs.length → DatT w (sv j) (vs.getD j Ver.none).size (vs.getD j Ver.none).f
  oo : w.ownsRow B 46 4 ov i (shoL Q dv i)
  od : ∀ j, j < i → DatT w (dv j) (Q j).len (Q j).d
section
variable {B i : Nat} {vs : List Ver} {Q : Nat → Sho} {vv : Value} {sv : Nat → Value} {ov : Value} {dv : Nat → Value} {w w' : World}
theorem Rf.new (h : Rf B i vs Q vv sv ov dv w) (hn : New w w') : Rf B i vs Q vv sv ov dv w' := ⟨own_new h.vo hn, fun j hj => (h.vt j hj).new hn, own_new h.oo hn, fun j hj => (h.od j hj).new hn⟩
/-- .. a block of another type is written, or a struct of the answers' type that is none of theirs -/
theorem Rf.far (h : Rf B i vs Q vv sv ov dv w) {b : Nat} {t : TypeId} {cs : Array Value} (hb : Blk w b t cs) (h1 : t ≠ 42) (h2 : t ≠ 5) (h3 : ov.ownBlock ≠ some b) (hg : w.grownBy w' (some b)) : Rf B i vs Q vv sv ov dv w' :=
  ⟨h.vo.kept hg (.inr fun e => own_ne_blk h.vo hb (Ne.symm h1) e), fun j hj => (h.vt j hj).grown hg fun g cs' hn e => blk_ne' hb hn h2 (Option.some.inj e), h.oo.kept hg (.inr fun e => h3 e), fun j hj => (h.od j hj).grown hg fun g cs' hn e => blk_ne' hb hn h2 (Option.some.inj e)⟩
end
/-- how a round's middle ends -/
def RCut (w0 : World) (i : Nat) (vs' : List Ver) (x' : Sho) (Q : Nat → Sho) (xb : Nat) (ov : Value) (dv : Nat → Value) (vv : Value) (wx : World) : Prop :=
  ∃ sv dx, Rf w0.heap.size i vs' Q vv sv ov dv wx ∧ Blk wx xb 46 #[.int .i64 x'.code, .int .i64 (x'.ver : Nat), .int .i64 (x'.size : Nat), dx] ∧ DatT wx dx x'.len x'.d ∧ New w0 wx
theorem RCut.no {w0 wx : World} {i xb : Nat} {vs vs' : List Ver} {x' : Sho} {Q : Nat → Sho} {ov vv : Value} {sv dv : Nat → Value} (h : Rf w0.heap.size i vs Q vv sv ov dv wx) (hb : Blk wx xb 46 sho0) (ho : ov.ownBlock ≠ some xb) (hn : New w0 wx) (hx : w0.heap.size ≤ xb) (cd : Int) (e : (vs, Sho.no cd) = (vs', x')) :
    RCut w0 i vs' x' Q xb ov dv vv (wx.setCell ⟨xb, 0, none⟩ (.int .i64 cd)) := by
  obtain ⟨rfl, rfl⟩ := Prod.mk.inj e
  exact ⟨sv, _, h.far hb (by decide) (by decide) ho (grown_set _ _ _ _), hb.put 0 (.int .i64 cd), DatT.nil _ _, hn.grown1 (grown_set _ _ _ _) hx⟩
theorem slL_more (sv : Nat → Value) (n : Nat) (v : Value) : (List.range (n + 1)).map (fun i => if i = n then v else sv i) = (List.range n).map sv ++ [v] := by
  rw [List.range_succ, List.map_append]
  congr 1
  · apply List.map_congr_left
    intro i hi
    have := List.mem_range.1 hi
    simp [show i ≠ n by omega]
  · simp
/-- a version more -/
theorem RCut.push {w0 wx wy : World} {i xb n : Nat} {vs vs' : List Ver} {x : Ver} {x' : Sho} {Q : Nat → Sho} {ov vv vy nv : Value} {sv dv : Nat → Value} {ob : Obj} (h : Rf w0.heap.size i vs Q vv sv ov dv wx) (hb : Blk wx xb 46 #[.int .i64 0, .int .i64 (n : Nat), .int .i64 (x.size : Nat), .slice none 0 0]) (hn : New w0 wx) (hx : w0.heap.size ≤ xb)
    (hd : DatT wx nv x.size x.f) (hown : wy.ownsRow w0.heap.size 42 1 vy (vs.length + 1) ((List.range vs.length).map sv ++ [nv])) (hg : (wx.alloc ob).grownBy wy vv.ownBlock) (e : (vs ++ [x], (⟨0, n, x.size, 0, fun _ => 0⟩ : Sho)) = (vs', x')) :
    RCut w0 i vs' x' Q xb ov dv vy wy := by
  obtain ⟨rfl, rfl⟩ := Prod.mk.inj e
  have ha : New wx (wx.alloc ob) := (New.refl wx).alloc _
  have h1 := h.new ha
  have hu : ∀ b cs, Blk (wx.alloc ob) b 5 cs → vv.ownBlock ≠ some b := fun b cs hb => own_ne_blk h1.vo hb (by decide)
  have hl : (vs ++ [x]).length = vs.length + 1 := by simp
  refine ⟨fun j => if j = vs.length then nv else sv j, _, ⟨by rw [hl, slL_more]; exact hown, fun j hj => ?_, ?_, fun j hj => (h1.od j hj).grown hg hu⟩, (hb.new ha).grown hg (own_ne_blk h1.vo (hb.new ha) (by decide)), DatT.nil _ _, (hn.next ha).grown hg fun r e => (h1.vo.lt r e).1⟩
  · rw [hl] at hj
    by_cases e : j = vs.length
    · subst e
      rw [if_pos rfl, getD_new]
      exact (hd.new ha).grown hg hu
    · rw [if_neg e, getD_old (by omega)]
      exact (h1.vt j (by omega)).grown hg hu
  · refine h1.oo.kept hg ?_
    rcases h1.oo.2 with ⟨he, _⟩ | ⟨g, cap, cur, he, _, hg0, _⟩
    · exact .inl (by rw [he]; rfl)
    · rw [he]
      exact .inr (fun hh => own_ne_blk h1.vo (t := 46) hg0 (by decide) hh.symm)
end Go.Proofs.Ytiffgeglbafenaa.tree
