/-
  Plain laws of a line cut at its blanks.
-/
import Derived.Test.YtaommipcdcncnaaDoorDeskPlain
import Derived.Lib.SplitLaws
namespace Go.Proofs.YtaommipcdcncnaaDoor.desk
open Go.Proofs.YtaommipcdcncnaaDoor.kit
set_option linter.unusedVariables false
/-- the words between blanks -/
def cutT : Tx → List Tx
  | [] => [[]]
  | c :: r => if c = 32 then [] :: cutT r else match cutT r with
    | h :: t => (c :: h) :: t
    | [] => [[c]]
theorem cut_blank (r : Tx) : cutT (32 :: r) = [] :: cutT r := by rw [cutT, if_pos rfl]
theorem cut_cons {r : Tx} {c : UInt8} {h : Tx} {t : List Tx} (hc : ¬ c = 32) (hr : cutT r = h :: t) : cutT (c :: r) = (c :: h) :: t := by rw [cutT, if_neg hc, hr]
theorem tail_cons (x : Tx) (ps : List Tx) : tailT (x :: ps) = 32 :: (x ++ tailT ps) := by simp [Lib.joinTail]
theorem cut_join : ∀ s : Tx, ∃ h t, cutT s = h :: t ∧ s = h ++ tailT t ∧ (¬ (32 : UInt8) ∈ h) ∧ ∀ x ∈ t, ¬ (32 : UInt8) ∈ x
  | [] => ⟨[], [], rfl, rfl, by simp, by simp⟩
  | c :: r => by
    obtain ⟨h, t, e, hs, hh, ht⟩ := cut_join r
    by_cases hc : c = 32
    · subst hc
      refine ⟨[], h :: t, by rw [cut_blank, e], ?_, by simp, fun x hx => ?_⟩
      · rw [tail_cons, ← hs]
        rfl
      · rcases List.mem_cons.1 hx with rfl | hx
        · exact hh
        · exact ht x hx
    · refine ⟨c :: h, t, cut_cons hc e, by rw [hs]; rfl, fun hx => ?_, ht⟩
      rcases List.mem_cons.1 hx with hx | hx
      · exact hc hx.symm
      · exact hh hx
theorem cut_word : ∀ (x : Tx) (ps : List Tx), (¬ (32 : UInt8) ∈ x) → (∀ p ∈ ps, ¬ (32 : UInt8) ∈ p) → cutT (x ++ tailT ps) = x :: ps
  | [], [], _, _ => rfl
  | [], p :: ps, _, hp => by
    rw [tail_cons]
    show cutT (32 :: (p ++ tailT ps)) = _
    rw [cut_blank, cut_word p ps (hp p (List.mem_cons_self ..)) (fun q hq => hp q (List.mem_cons_of_mem _ hq))]
  | c :: x, ps, hx, hp => by
    have hc : ¬ c = 32 := fun e => hx (by rw [e]; exact List.mem_cons_self ..)
    exact cut_cons hc (cut_word x ps (fun h => hx (List.mem_cons_of_mem _ h)) hp)
termination_by x ps => x.length + (tailT ps).length
decreasing_by
  · simp [Lib.joinTail]
  · simp
theorem cut_snoc_blank : ∀ s : Tx, cutT (s ++ [32]) = cutT s ++ [[]]
  | [] => rfl
  | c :: r => by
    by_cases hc : c = 32
    · subst hc
      show cutT (32 :: (r ++ [32])) = _
      rw [cut_blank, cut_blank, cut_snoc_blank r]
      rfl
    · obtain ⟨h, t, e, _⟩ := cut_join r
      show cutT (c :: (r ++ [32])) = _
      rw [cut_cons hc e, cut_cons hc (by rw [cut_snoc_blank r, e]; rfl)]
      rfl
theorem cut_snoc : ∀ (s : Tx) (c : UInt8) (l : List Tx) (x : Tx), (¬ c = 32) → cutT s = l ++ [x] → cutT (s ++ [c]) = l ++ [x ++ [c]]
  | [], c, l, x, hc, h => by
    have h2 : ([[]] : List Tx) = l ++ [x] := h
    match l, h2 with
    | [], h2 =>
      injection h2 with h2
      subst h2
      show cutT [c] = _
      rw [cut_cons hc (rfl : cutT [] = [] :: [])]
      rfl
    | [_], h2 => simp at h2
    | _ :: _ :: _, h2 => simp at h2
  | d :: r, c, l, x, hc, h => by
    by_cases hd : d = 32
    · subst hd
      rw [cut_blank] at h
      match l, h with
      | [], h =>
        obtain ⟨a, b, e, _⟩ := cut_join r
        rw [e] at h
        simp at h
      | y :: l, h =>
        injection h with h1 h2
        subst h1
        show cutT (32 :: (r ++ [c])) = _
        rw [cut_blank, cut_snoc r c l x hc h2]
        rfl
    · obtain ⟨a, b, e, _⟩ := cut_join r
      rw [cut_cons hd e] at h
      show cutT (d :: (r ++ [c])) = _
      match l, h with
      | [], h =>
        injection h with h1 h2
        subst h1
        subst h2
        rw [cut_cons hd (cut_snoc r c [] a hc e)]
        rfl
      | y :: l, h =>
        injection h with h1 h2
        subst h1
        rw [cut_cons hd (cut_snoc r c (a :: l) x hc (by rw [e, h2]; rfl))]
        rfl
theorem cut_len : ∀ s : Tx, (cutT s).length = Lib.count s [32] + 1
  | [] => by rw [Lib.count_one]; rfl
  | c :: r => by
    by_cases hc : c = 32
    · subst hc
      rw [cut_blank, Lib.count_cons_eq, List.length_cons, cut_len r]
      omega
    · obtain ⟨a, b, e, _⟩ := cut_join r
      rw [cut_cons hc e, Lib.count_cons_ne c 32 r hc, ← cut_len r, e]
      rfl
theorem split_cut : ∀ s : Tx, Lib.splitK [32] 0 (Lib.count s [32]) s = cutT s
  | [] => by rw [show Lib.count ([] : Tx) [32] = 0 from by rw [Lib.count_one]; rfl]; rfl
  | c :: r => by
    by_cases hc : c = 32
    · subst hc
      rw [cut_blank, Lib.count_cons_eq, Nat.add_comm, Lib.splitK]
      have hix : Lib.index ((32 : UInt8) :: r) [32] = 0 := by rw [Lib.index]; simp [List.isPrefixOf]
      rw [if_neg (by rw [hix]; decide), hix]
      show [] :: Lib.splitK [32] 0 (Lib.count r [32]) r = _
      rw [split_cut r]
    · have ih := split_cut r
      have hp : ([32] : Tx).isPrefixOf (c :: r) = false := by simp [List.isPrefixOf, Ne.symm hc]
      have hix : Lib.index (c :: r) [32] = if Lib.index r [32] == -1 then -1 else Lib.index r [32] + 1 := by rw [Lib.index, hp]; simp
      rw [Lib.count_cons_ne c 32 r hc]
      obtain ⟨a, b, e, _⟩ := cut_join r
      rw [cut_cons hc e]
      have hl := cut_len r
      cases hk : Lib.count r [32] with
      | zero =>
        rw [hk] at ih
        have h1 : [r] = a :: b := by rw [← e]; exact ih
        injection h1 with h1 h2
        subst h1
        subst h2
        rfl
      | succ k =>
        rw [hk] at ih
        rw [Lib.splitK] at ih ⊢
        by_cases hm : Lib.index r [32] = -1
        · rw [if_pos (by rw [hm]; rfl)] at ih
          rw [← ih, hk] at hl
          simp at hl
        · have hge := Lib.index_ge r [32]
          obtain ⟨j, hj⟩ : ∃ j : Nat, Lib.index r [32] = j := ⟨(Lib.index r [32]).toNat, by omega⟩
          have hi : Lib.index (c :: r) [32] = ((j + 1 : Nat) : Int) := by rw [hix, if_neg (fun e => hm (beq_iff_eq.1 e)), hj]; omega
          rw [if_neg (fun e => hm (beq_iff_eq.1 e)), hj, e] at ih
          rw [if_neg (by rw [hi]; simp; omega), hi]
          injection ih with h1 h2
          rw [← h1, ← h2]
          rfl
/-- what strings.Split gives -/
theorem splitB_cut (s : Tx) : (Lib.splitB ⟨#[32]⟩ 0 (Lib.countB ⟨s.toArray⟩ ⟨#[32]⟩) ⟨s.toArray⟩).map (·.data.toList) = cutT s := by
  rw [Lib.splitB_data]
  exact split_cut s
end Go.Proofs.YtaommipcdcncnaaDoor.desk
