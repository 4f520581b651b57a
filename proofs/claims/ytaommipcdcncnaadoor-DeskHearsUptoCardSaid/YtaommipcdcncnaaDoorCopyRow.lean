/-
  copy into a row whose every cell is known.
-/
import Derived.Test.YtaommipcdcncnaaDoorRow
import Derived.Laws.CopyOwn
namespace Go.Proofs.YtaommipcdcncnaaDoor.kit
open Go.RowKit Go.Deep
set_option linter.unusedVariables false
/-- what a copy of m cells to place off leaves -/
def cpF (off m : Nat) (u f : Nat → Value) : Nat → Value := fun j => if off ≤ j ∧ j < off + m then u (j - off) else f j
theorem cp_row {w : World} {g M : Nat} {t : TypeId} {cur : Array Value} {f u : Nat → Value} {off m : Nat} (hg : w.heap[g]? = some (.cells cur t (0, 0))) (hs : cur.size = M) (hf : ∀ i, i < M → cur[i]? = some (f i)) (hfit : off + m ≤ M) :
    (w.setRow g (cur.toList.take off ++ (((List.range m).map u) ++ cur.toList.drop (off + m))).toArray).rowIs g t M (cpF off m u f) := by
  refine ⟨_, setRow_heap w g cur _ t _ hg, ?_, fun i hi => ?_⟩
  · simp
    omega
  · have hl : (cur.toList.take off).length = off := by rw [List.length_take, Array.length_toList]; omega
    have hl2 : ((List.range m).map u).length = m := by simp
    rw [List.getElem?_toArray]
    unfold cpF
    by_cases h1 : i < off
    · rw [List.getElem?_append_left (by omega), if_neg (by omega), List.getElem?_take, if_pos h1]
      simpa using hf i hi
    · rw [List.getElem?_append_right (by omega), hl]
      by_cases h2 : i < off + m
      · rw [List.getElem?_append_left (by omega), if_pos ⟨by omega, h2⟩]
        simp [show i - off < m by omega]
      · rw [List.getElem?_append_right (by omega), hl2, if_neg (by omega), List.getElem?_drop, show off + m + (i - off - m) = i by omega]
        simpa using hf i hi
theorem copy_run {P : Program} {w : World} (dT sT ty : TypeId) (elem : TypeId) (hu : P.underlying dT = some (.slice elem)) (hsz : (P.info? elem).map (·.size) = some 1)
    (g off M : Nat) (t : TypeId) (f : Nat → Value) (hrow : w.rowIs g t M f) (dp sp : Option Addr) (dLen dCap sLen sCap m : Nat) (u : Nat → Value) (hm : m = Nat.min sLen dLen)
    (hpos : 0 < m → dp = some ⟨g, off, none⟩ ∧ ∃ b o, sp = some ⟨b, o, none⟩ ∧ ∀ j, j < m → w.cell? ⟨b, o + j, none⟩ = some (u j)) (hfit : off + m ≤ M) (h1 : ∀ j, j < m → (u j).oneCell' = true) :
    ∃ w', (Builtin.copy_ #[dT, sT] ty #[.slice dp dLen dCap, .slice sp sLen sCap]).run P w = .ok (goInt m) w' ∧ w'.rowIs g t M (cpF off m u f) ∧ w.grownBy w' (some g) := by
  by_cases h0 : m = 0
  · subst h0
    refine ⟨w, run_copy_none (P := P) w dT sT ty elem dp sp dLen dCap sLen sCap hu hsz hm.symm, hrow.congr fun i _ => ?_, grown_refl _ _⟩
    unfold cpF
    rw [if_neg (by omega)]
  · obtain ⟨rfl, b, o, rfl, hsrc⟩ := hpos (by omega)
    obtain ⟨cur, hg, hs, hf⟩ := hrow
    have hl2 : ((List.range m).map u).length = m := by simp
    have hrun := run_copy_row (P := P) w dT sT ty elem g off dLen dCap ⟨b, o, none⟩ sLen sCap cur t ((List.range m).map u) hu hsz hg (by rw [hl2]; exact hm) (fun j v hv => by
      have hj : j < m := by have := (List.getElem?_eq_some_iff.1 hv).1; simpa using this
      rw [add_cell, hsrc j hj]
      simpa [hj] using hv) (by rw [hl2]; omega) (fun v hv => by
      obtain ⟨j, hj, rfl⟩ := List.mem_map.1 hv
      exact h1 j (List.mem_range.1 hj))
    rw [hl2, List.append_assoc] at hrun
    refine ⟨_, hrun, cp_row hg hs hf hfit, ?_⟩
    generalize (cur.toList.take off ++ (((List.range m).map u) ++ cur.toList.drop (off + m))).toArray = X
    exact ⟨rfl, rfl, rfl, by simp, fun k _ hk => setRow_other w g k _ (fun e => hk (by rw [e]))⟩
theorem wpList_copy_rowIs {P : Program} {w : World} {ops : Array Oper} {rest : List Oper} {o : Oper} {a : Act} {Q : Exit → Act → World → Prop} (hgd : o.guard = none) (d s : Operand) (dT sT : TypeId)
    (ho : o.op = .call { callee := .builtin .copy, args := #[d, s], argTypes := #[dT, sT] }) (elem : TypeId) (hu : P.underlying dT = some (.slice elem)) (hsz : (P.info? elem).map (·.size) = some 1)
    (g off M : Nat) (t : TypeId) (f : Nat → Value) (hrow : w.rowIs g t M f) (dp sp : Option Addr) (dLen dCap sLen sCap m : Nat) (u : Nat → Value) (hd : a.eval d = .slice dp dLen dCap) (hs : a.eval s = .slice sp sLen sCap) (hm : m = Nat.min sLen dLen)
    (hpos : 0 < m → dp = some ⟨g, off, none⟩ ∧ ∃ b o, sp = some ⟨b, o, none⟩ ∧ ∀ j, j < m → w.cell? ⟨b, o + j, none⟩ = some (u j)) (hfit : off + m ≤ M) (h1 : ∀ j, j < m → (u j).oneCell' = true)
    (h : ∀ w', Hid (w'.rowIs g t M (cpF off m u f)) → w.grownBy w' (some g) → wpList P ops Q rest (a.put o.dst (goInt m)) w') : wpList P ops Q (o :: rest) a w := by
  refine wpList_plain hgd fun K hK => ?_
  obtain ⟨w', hrun, hr, hgr⟩ := copy_run (P := P) dT sT o.type elem hu hsz g off M t f hrow dp sp dLen dCap sLen sCap m u hm hpos hfit h1
  unfold Oper.wp
  simp [execOp, ho, resolve, invoke, builtin, hd, hs, hrun, Result.andThen]
  exact hK _ _ (h w' hr hgr)
theorem step_copy_rowIs {P : Program} {ops : Array Oper} {o : Oper} {a : Act} {w : World} {K : Act → World → Prop} {Q : Exit → Act → World → Prop} {E : Prop} (hgd : o.guard = none) (d s : Operand) (dT sT : TypeId)
    (ho : o.op = .call { callee := .builtin .copy, args := #[d, s], argTypes := #[dT, sT] }) (elem : TypeId) (hu : P.underlying dT = some (.slice elem)) (hsz : (P.info? elem).map (·.size) = some 1)
    (g off M : Nat) (t : TypeId) (f : Nat → Value) (hrow : w.rowIs g t M f) (dp sp : Option Addr) (dLen dCap sLen sCap m : Nat) (u : Nat → Value) (hd : a.eval d = .slice dp dLen dCap) (hs : a.eval s = .slice sp sLen sCap) (hm : m = Nat.min sLen dLen)
    (hpos : 0 < m → dp = some ⟨g, off, none⟩ ∧ ∃ b o, sp = some ⟨b, o, none⟩ ∧ ∀ j, j < m → w.cell? ⟨b, o + j, none⟩ = some (u j)) (hfit : off + m ≤ M) (h1 : ∀ j, j < m → (u j).oneCell' = true)
    (h : ∀ w', Hid (w'.rowIs g t M (cpF off m u f)) → w.grownBy w' (some g) → K (a.put o.dst (goInt m)) w') :
    if Region.wanted o (yielded ops a.tmps) = true then Oper.wp P o a w K Q else E := by
  have hw : Region.wanted o (yielded ops a.tmps) = true := by simp [Region.wanted, hgd]
  rw [if_pos hw]
  obtain ⟨w', hrun, hr, hgr⟩ := copy_run (P := P) dT sT o.type elem hu hsz g off M t f hrow dp sp dLen dCap sLen sCap m u hm hpos hfit h1
  unfold Oper.wp
  simp [execOp, ho, resolve, invoke, builtin, hd, hs, hrun, Result.andThen]
  exact h w' hr hgr
end Go.Proofs.YtaommipcdcncnaaDoor.kit
