/-
  slices.Backward over what waits: its elements come one by one, the last first.
-/
import Derived.Test.YthjjchlibbheaaaDriveSet
import Derived.Shelf.Abstract
import Derived.Shelf.RegionOpen
import Derived.OwnWalkIn
import Derived.TacticsInMore
import Derived.LoopNIn
import Derived.LoopIn
import Derived.Lib.JoinLaws
import Derived.Laws.EntriesVeiled
namespace Go.Proofs.Ythjjchlibbheaaa.drive
open Go.ChangeShapes Go.WideShapes Go.ChangeAt Go.RowKit Go.Proofs.Ythjjchlibbheaaa.kit Go.Proofs.Ythjjchlibbheaaa.each Go.Deep
set_option linter.unusedVariables false
set_option maxRecDepth 100000
attribute [local go_sem] Oper.semAt_some
/-- what has come when r are left -/
def preB (m r : Nat) : List Nat := ((List.range m).drop r).reverse
theorem preB_full (m : Nat) : preB m m = [] := by
  unfold preB
  rw [List.drop_of_length_le (by simp)]
  rfl
theorem preB_step {m r : Nat} (h : r < m) : preB m r = preB m (r + 1) ++ [r] := by
  unfold preB
  rw [List.drop_eq_getElem_cons (by simpa using h), List.reverse_cons]
  simp
theorem preB_zero (m : Nat) : preB m 0 = (List.range m).reverse := by unfold preB; simp
theorem preB_prefix (m r : Nat) : preB m r <+: (List.range m).reverse := by
  unfold preB
  rw [List.reverse_prefix]
  exact List.drop_suffix _ _
/-- what a round is handed -/
def ArgB (ws : List (Nat × (Nat → Nat))) (dv : Nat → Value) (B i : Nat) (vs : Array Value) (W : World) : Prop := i < ws.length ∧ vs = #[.int .i64 i, .agg #[.int .i64 (ws.getD i noP).1, dv i]]
theorem yieldAny {m m' : Nat} {P : Program} {l : Nat} {args : Array Value} {W : World} {R : Ending → World → Prop} (h : YieldAt Fence.wide m P l args W R) : YieldAt Fence.wide m' P l args W R := by
  obtain ⟨fn, tmps, assign, body, hy, hR⟩ := h
  exact ⟨fn, tmps, assign, body, hy, hR.1, fun c cs _ => hR.2 c cs (fun d h => by cases h)⟩
abbrev KB (sb : Nat) (wv : Value) : Nat → Prop := fun k => k = sb ∨ wv.ownBlock = some k
set_option maxHeartbeats 2000000 in
theorem back_stops {nn : Nat} (ws : List (Nat × (Nat → Nat))) (dv : Nat → Value) (base sb m : Nat) (wv : Value) (w : World) (hm : ws.length = m) (hm3 : m ≤ 300) (hown : w.ownsRow base 152 2 wv m (wsL ws dv)) (hsb : Boxed w sb 146 wv) (hone : ∀ i, i < m → (dv i).oneCell' = true) :
    EachK nn Try.prog 108 #[.pointer (some ⟨sb, 0, none⟩)] 0 (KB sb wv) ((List.range m).reverse) (ArgB ws dv) w := by
  intro l J Jx W hW hJ hJx hY h0
  have hdd : ∀ k : Nat, (Fence.wide.depth.isSome = true → 1 ≤ k) := fun k h => by cases h
  have hsbW : Boxed W sb 146 wv := (hW.block sb hsb.lt).trans hsb
  obtain ⟨wA, wc, rfl, hw1, hw2, hwA, hwc⟩ := own_open hown
  have hwcH : Hid (∀ i, i < m → ∃ gw, wA = some ⟨gw, 0, none⟩ ∧ gw < w.heap.size ∧ w.cell? ⟨gw, i * 2, none⟩ = some (.int .i64 (ws.getD i noP).1) ∧ w.cell? ⟨gw, i * 2 + 1, none⟩ = some (dv i)) := fun i hi => by
    obtain ⟨k1, k2⟩ := wsL_at ws dv (by omega : i < ws.length)
    obtain ⟨gw, e1, _, e2⟩ := hwA (by omega)
    exact ⟨gw, e1, e2, hwc gw e1 _ _ k1, hwc gw e1 _ _ k2⟩
  have hKs : Hid (∀ (b : Nat) (X Y : World), (b = sb ∨ wA = some ⟨b, 0, none⟩) → b < X.heap.size → Held (KB sb (.slice wA m wc)) W.heap.size W.heap.size X Y → Y.heap[b]? = X.heap[b]?) := fun b X Y hb hl hh => hh.same b (.inl (by
    rcases hb with rfl | rfl
    · exact .inl rfl
    · exact .inr rfl)) hl
  have c0 := hsbW.cell
  have hYH := Lib.hid hY
  have hJH := Lib.hid h0
  have hWH := Lib.hid hW
  have hoH := Lib.hid hone
  have hbx := Lib.hid hsbW
  clear hown hY h0 hW hwA hwc hone hsbW
  refine callsIn_of_wp Try.func108 rfl trivial ?_ rfl; simp only [Try.ntmps108, List.size_toArray, List.length_cons, List.length_nil, Nat.reduceAdd, Nat.reduceSub, Array.replicate_succ, Array.replicate_zero, List.push_toArray, List.append_toArray, List.nil_append, List.cons_append]
  gi_wp2_with fail
  gi_loopw [3] (fun x wr => ∃ r : Nat, x = .int .i64 ((r : Int) - 1) ∧ r ≤ m ∧ Hid (J (preB m r) wr) ∧ Hid (Held (KB sb (.slice wA m wc)) W.heap.size W.heap.size W wr)) (fun x _ => (intOf x + 1).toNat)
  case atStart => exact ⟨m, rfl, Nat.le_refl _, by show J _ _; rw [preB_full]; exact hJH.out, Held.refl _⟩
  case round =>
    obtain ⟨r, rfl, hr, hJr, hHr⟩ := hrel
    by_cases h1 : 1 ≤ r
    · obtain ⟨i, rfl⟩ : ∃ i, r = i + 1 := ⟨r - 1, by omega⟩
      have him : i < m := by omega
      obtain ⟨gw, rfl, hgw, e0, e1⟩ := hwcH.out i him
      have hgW : gw < W.heap.size := Nat.lt_of_lt_of_le hgw hWH.out.size
      have d0 : wr.cell? ⟨sb, 0, none⟩ = some (.slice (some ⟨gw, 0, none⟩) m wc) := Boxed.cell (t := 146) ((hKs.out sb W wr (.inl rfl) hbx.out.lt hHr.out).trans hbx.out)
      have hcell : ∀ {k : Nat} {v : Value}, w.cell? ⟨gw, k, none⟩ = some v → wr.cell? ⟨gw, k, none⟩ = some v := fun {k v} hc => by
        have h2 := (hWH.out.cell (p := ⟨gw, k, none⟩) hgw).trans hc
        rw [← h2]
        simp only [World.cell?, hKs.out gw W wr (.inr rfl) hgW hHr.out]
      have d1 := hcell e0
      have d2 := hcell e1
      have hxi : (((i + 1 : Nat) : Int) - 1) = (i : Int) := by omega
      have hil : (i : Int) < (m : Int) := by omega
      obtain ⟨q, hq⟩ : ∃ q, Hid (q = (ws.getD i noP).1) := ⟨_, rfl⟩
      rw [← hq.out] at d1
      have hon := hoH.out i him
      obtain ⟨fn, tmps, assign, body, hy, hR⟩ := yieldAny (m' := nn - 1) (hYH.out (preB m (i + 1)) i #[.int .i64 i, .agg #[.int .i64 q, dv i]] wr hJr.out (by rw [← preB_step him]; exact preB_prefix _ _) (by unfold ArgB; rw [hq.out]; exact ⟨by omega, rfl⟩) (by have := hHr.out.size; omega))
      rw [hxi]
      clear e0 e1 hcell
      gi_wp2_with fail
      refine ⟨hdd _, ?_⟩
      refine hR.mono ?_
      clear hR hy
      rintro e W2 (⟨rfl, hj, hh⟩ | ⟨rfl, hx⟩)
      · rw [← preB_step him] at hj
        have hj2 := Lib.hid hj
        have hh2 := Lib.hid (hHr.out.trans hh)
        clear hj hh d0 d1 d2
        gi_wp2_with fail
        go_roundw
        case rel => exact ⟨i, rfl, by omega, hj2, hh2⟩
        case measure => simp [intOf]
      · rw [← preB_step him] at hx
        have hx2 := Lib.hid hx
        clear hx d0 d1 d2
        gi_wp2_with fail
        refine bodyPost_ret (results_none rfl _ _ _) rfl ?_
        exact ⟨⟨_, rfl⟩, .inr ⟨preB m i, preB_prefix _ _, hx2.out⟩⟩
    · have hr0 : r = 0 := by omega
      subst hr0
      have hj2 : Hid (J (List.range m).reverse wr) := by rw [← preB_zero]; exact hJr
      gi_wp2_with fail
      go_end0
      exact ⟨⟨_, rfl⟩, .inl hj2.out⟩
theorem Backward_any (A : Option Addr) (n c : Nat) (w : World) : Calls Try.prog 85 #[.slice A n c] w fun e w' => e = .returned (.func (.func 108) #[] #[.pointer (some ⟨w.heap.size, 0, none⟩)]) ∧ w' = w.alloc (.cells #[.slice A n c] 146) := by
  go_enter Try.func85, Try.ntmps85
  go_wp2
  go_ret
  exact ⟨rfl, rfl⟩
end Go.Proofs.Ythjjchlibbheaaa.drive
