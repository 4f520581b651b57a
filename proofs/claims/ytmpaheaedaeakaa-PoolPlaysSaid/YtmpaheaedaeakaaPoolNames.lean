/-
  Contract of names: a map's names, ascending; of maps.Clone.
-/
import Derived.Test.YtmpaheaedaeakaaPoolFlat
import Derived.Test.YtmpaheaedaeakaaPoolShelf
import Derived.Sort.OwnSorted
namespace Go.Proofs.Ytmpaheaedaeakaa.pool
open Go.ChangeShapes Go.WideShapes Go.ChangeAt Go.RowKit Go.Proofs.Ytmpaheaedaeakaa.kit Go.Deep Go.Maps Go.Sort Go.Shelf
set_option linter.unusedVariables false
set_option maxRecDepth 100000
theorem sort_asc {α : Type} {l : List (Nm × α)} (hs : Asc l) {ss : List Nm} (hp : ss.Perm (l.map (·.1))) : ss.mergeSort (fun x y => decide (x ≤ y)) = l.map (·.1) := by
  refine List.Perm.eq_of_pairwise (le := fun a b => decide (a ≤ b) = true) (fun a b _ _ h1 h2 => List.le_antisymm (by simpa using h1) (by simpa using h2)) (List.pairwise_mergeSort (fun a b c h1 h2 => ?_) (fun a b => ?_) _) ?_ ((List.mergeSort_perm _ _).trans hp)
  · simp only [decide_eq_true_eq] at h1 h2 ⊢
    exact List.le_trans h1 h2
  · simp only [Bool.or_eq_true, decide_eq_true_eq]
    exact List.le_total a b
  · rw [List.pairwise_map]
    refine List.Pairwise.imp (R := fun p q : Nm × α => p.1 < q.1) (fun {a b} h => ?_) hs
    simp only [decide_eq_true_eq]
    exact List.le_of_lt h
theorem perm_names {α : Type} {w : World} {b c : Nat} {l : List (Nm × α)} (hs : Asc l) {D : DataW Value} (h1 : w.ownsMap Try.prog 9 tokR b c D) (h3 : ∀ k, has D (.string k) = (get l k).isSome) : (l.map (·.1)).Perm (strKeys D) := by
  obtain ⟨es, rfl, hp, hk⟩ := h1.entries keyed
  refine perm_strKeys hp (fun p hp' => ?_) (names_nodup hs) fun x => ?_
  · obtain ⟨es', clock, hb, F, hsz, hD⟩ := h1
    injection hD with hD
    rw [hD] at hp'
    have := Go.Maps.fit_keys F
    have h5 := this p ((mem_sorted).1 hp')
    obtain ⟨key, hkey⟩ := h5
    obtain ⟨x, _, h7, _⟩ := keyOf_str Try.underlying9 hkey
    exact ⟨x, h7⟩
  · rw [h3, get_isSome, List.mem_map]
set_option maxHeartbeats 1000000 in
theorem sorted_obj {α : Type} {rd : Value → α → Prop} (b c : Nat) (l : List (Nm × α)) (w : World) (h : MP rd w b c l) (hl : l.length ≤ 1000) :
    Calls Try.prog 26 #[.func (.func 37) #[] #[.pointer (some ⟨w.heap.size, 0, none⟩)]] (w.alloc (.cells #[.map (some b)] 46)) fun e w' => ∃ v, e = .returned v ∧ Ns w' v (l.map (·.1)) ∧ New (w.alloc (.cells #[.map (some b)] 46)) w' := by
  obtain ⟨hs, D, hown, hsz, hhas, _⟩ := h
  have hbl := hown.lt
  have hseq : SeqGives Fence.wide 2 Try.prog 37 #[.pointer (some ⟨w.heap.size, 0, none⟩)] encStr (fun ss => ss.Perm (strKeys D)) (Maps.size D) (w.alloc (.cells #[.map (some b)] 46)) :=
    AnyZ.keys_gives (ρ := keys27_ren) { keys27 with } Fence.wide _ trivial rfl (by omega) w.heap.size b c D _ (by simp) (by simp) (by
      obtain ⟨es, clock, hb, Ft, hs, hD⟩ := hown
      exact ⟨es, clock, (Below.heap_alloc _ _ b hbl).trans hb, Ft, hs, hD⟩)
  have hsorts : AnyZ.SortsIn Try.prog sorted26_ren Fence.wide (5 - 1) :=
    ⟨fun blk off cap ss W hH hblk hsz => callsIn_wide.2 (AnyM.slices_Sort_string sort36 blk off cap ss W hH hblk hsz), fun p cap W => callsIn_wide.2 (AnyM.slices_Sort_string_none sort36 p cap W)⟩
  have hc := AnyZ.sorted_in sorted26 Fence.wide 5 trivial trivial trivial trivial rfl (by omega) hsorts (enters_of Try.func36 (by kernel_rfl) rfl) 37 #[.pointer (some ⟨w.heap.size, 0, none⟩)] trivial (enters_of Try.func37 (by kernel_rfl) rfl) _ (Maps.size D) (by rw [hsz]; unfold maxLen; omega) (by rw [hsz]; omega) _ hseq
  refine Calls.mono ((callsIn_wide).1 hc) ?_
  rintro e w' ⟨v, ss, rfl, hp, hrow, hnil, hb⟩
  have hp2 := hp.trans (perm_names hs hown hhas).symm
  rw [sort_asc hs hp2] at hrow
  refine ⟨v, rfl, ?_, hb⟩
  have e : ss.length = (l.map (·.1)).length := hp2.length_eq
  rw [e] at hrow
  exact own_mono hrow (Nat.zero_le _)
theorem keys_obj (mb : Option Nat) (w : World) : Calls Try.prog 27 #[.map mb] w fun e w' => e = .returned (.func (.func 37) #[] #[.pointer (some ⟨w.heap.size, 0, none⟩)]) ∧ w' = w.alloc (.cells #[.map mb] 46) :=
  (callsIn_wide).1 (AnyZ.keys_in keys27 Fence.wide 5 trivial rfl mb w)
theorem names_obj {α : Type} {rd : Value → α → Prop} (b c : Nat) (l : List (Nm × α)) (w : World) (h : MP rd w b c l) (hl : l.length ≤ 1000) :
    Calls Try.prog 13 #[.map (some b)] w fun e w' => ∃ v, e = .returned v ∧ Ns w' v (l.map (·.1)) ∧ New w w' := by
  have hs := Lib.hid (sorted_obj b c l w h hl)
  have hk := Lib.hid (keys_obj (some b) w)
  clear h
  go_enter Try.func13, Try.ntmps13
  go_wp2_with fail
  refine hk.out.mono ?_
  rintro e w1 ⟨rfl, rfl⟩
  go_wp2_with fail
  refine hs.out.mono ?_
  rintro e w2 ⟨v, rfl, hN, hn⟩
  go_wp2
  go_ret
  exact ⟨v, rfl, hN, New.of_alloc hn⟩
set_option maxHeartbeats 1000000 in
theorem sorted_snp {α : Type} {rd : Value → α → Prop} (b c : Nat) (l : List (Nm × α)) (w : World) (h : MP rd w b c l) (hl : l.length ≤ 1000) :
    Calls Try.prog 26 #[.func (.func 38) #[] #[.pointer (some ⟨w.heap.size, 0, none⟩)]] (w.alloc (.cells #[.map (some b)] 48)) fun e w' => ∃ v, e = .returned v ∧ Ns w' v (l.map (·.1)) ∧ New (w.alloc (.cells #[.map (some b)] 48)) w' := by
  obtain ⟨hs, D, hown, hsz, hhas, _⟩ := h
  have hbl := hown.lt
  have hseq : SeqGives Fence.wide 2 Try.prog 38 #[.pointer (some ⟨w.heap.size, 0, none⟩)] encStr (fun ss => ss.Perm (strKeys D)) (Maps.size D) (w.alloc (.cells #[.map (some b)] 48)) :=
    AnyZ.keys_gives (ρ := keys28_ren) { keys28 with } Fence.wide _ trivial rfl (by omega) w.heap.size b c D _ (by simp) (by simp) (by
      obtain ⟨es, clock, hb, Ft, hs, hD⟩ := hown
      exact ⟨es, clock, (Below.heap_alloc _ _ b hbl).trans hb, Ft, hs, hD⟩)
  have hsorts : AnyZ.SortsIn Try.prog sorted26_ren Fence.wide (5 - 1) :=
    ⟨fun blk off cap ss W hH hblk hsz => callsIn_wide.2 (AnyM.slices_Sort_string sort36 blk off cap ss W hH hblk hsz), fun p cap W => callsIn_wide.2 (AnyM.slices_Sort_string_none sort36 p cap W)⟩
  have hc := AnyZ.sorted_in sorted26 Fence.wide 5 trivial trivial trivial trivial rfl (by omega) hsorts (enters_of Try.func36 (by kernel_rfl) rfl) 38 #[.pointer (some ⟨w.heap.size, 0, none⟩)] trivial (enters_of Try.func38 (by kernel_rfl) rfl) _ (Maps.size D) (by rw [hsz]; unfold maxLen; omega) (by rw [hsz]; omega) _ hseq
  refine Calls.mono ((callsIn_wide).1 hc) ?_
  rintro e w' ⟨v, ss, rfl, hp, hrow, hnil, hb⟩
  have hp2 := hp.trans (perm_names hs hown hhas).symm
  rw [sort_asc hs hp2] at hrow
  refine ⟨v, rfl, ?_, hb⟩
  have e : ss.length = (l.map (·.1)).length := hp2.length_eq
  rw [e] at hrow
  exact own_mono hrow (Nat.zero_le _)
theorem keys_snp (mb : Option Nat) (w : World) : Calls Try.prog 28 #[.map mb] w fun e w' => e = .returned (.func (.func 38) #[] #[.pointer (some ⟨w.heap.size, 0, none⟩)]) ∧ w' = w.alloc (.cells #[.map mb] 48) :=
  (callsIn_wide).1 (AnyZ.keys_in keys28 Fence.wide 5 trivial rfl mb w)
theorem names_snp {α : Type} {rd : Value → α → Prop} (b c : Nat) (l : List (Nm × α)) (w : World) (h : MP rd w b c l) (hl : l.length ≤ 1000) :
    Calls Try.prog 14 #[.map (some b)] w fun e w' => ∃ v, e = .returned v ∧ Ns w' v (l.map (·.1)) ∧ New w w' := by
  have hs := Lib.hid (sorted_snp b c l w h hl)
  have hk := Lib.hid (keys_snp (some b) w)
  clear h
  go_enter Try.func14, Try.ntmps14
  go_wp2_with fail
  refine hk.out.mono ?_
  rintro e w1 ⟨rfl, rfl⟩
  go_wp2_with fail
  refine hs.out.mono ?_
  rintro e w2 ⟨v, rfl, hN, hn⟩
  go_wp2
  go_ret
  exact ⟨v, rfl, hN, New.of_alloc hn⟩
theorem Clone_map {α : Type} {rd : Value → α → Prop} (b c : Nat) (l : List (Nm × α)) (w : World) (h : MP rd w b c l) :
    Calls Try.prog 30 #[.map (some b)] w fun e w' => e = .returned (.map (some w.heap.size)) ∧ MP rd w' w.heap.size c l ∧ New w w' := by
  obtain ⟨hs, D, hown, hsz, hhas, hrd⟩ := h
  refine Calls.mono (AnyW.maps_Clone_owns clone30 9 tokR b c D w hown) ?_
  rintro e w' ⟨rfl, h1, _, hn⟩
  exact ⟨rfl, ⟨hs, D, h1, hsz, hhas, hrd⟩, hn⟩
end Go.Proofs.Ytmpaheaedaeakaa.pool
