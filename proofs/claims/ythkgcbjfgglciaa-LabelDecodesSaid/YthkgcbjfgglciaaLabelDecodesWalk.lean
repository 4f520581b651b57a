/-
  The walk of the law LabelDecodes.
-/
import Derived.Test.YthkgcbjfgglciaaRows
import Derived.Test.YthkgcbjfgglciaaLabelDecRef
import Derived.Test.YthkgcbjfgglciaaFletOpen
import Derived.SizedLaws
namespace Go.Proofs.Ythkgcbjfgglciaa.labelDecodes
open Go.ChangeShapes Go.WideShapes Go.ChangeAt Go.RowKit Go.Proofs.Ythkgcbjfgglciaa.kit Go.Proofs.Ythkgcbjfgglciaa.label Go.Proofs.Ythkgcbjfgglciaa.flet
set_option linter.unusedVariables false
theorem octets_any (A : Option Addr) (n c : Nat) (B : Nat → Nat) (w : World) (h : RdB w A n B) (hn : n ≤ 140737488351232) :
    Calls Try.prog 32 #[.slice A n c] w fun e w' => (∃ A' c', e = .returned (.slice A' n c') ∧ RdB w' A' n B ∧ n ≤ c' ∧ c' ≤ maxLen) ∧ New w w' := by
  obtain ⟨i0, hi0, hz0, hz1, hz2⟩ := info_parts infoU8
  rcases Nat.eq_zero_or_pos n with h0 | h0
  · subst h0
    have hr : Hid (RdB w none 0 B) := ⟨Nat.zero_le _, fun i h => absurd h (Nat.not_lt_zero i), fun h => absurd h (Nat.lt_irrefl 0)⟩
    clear h hn
    cases A with
    | none =>
      go_enter Try.func32, Try.ntmps32
      go_wp2
      go_ret
      exact ⟨⟨_, _, rfl, hr.out, Nat.le_refl _, Nat.zero_le _⟩, New.refl w⟩
    | some a =>
      go_enter Try.func32, Try.ntmps32
      go_wp2
      go_ret
      exact ⟨⟨_, _, rfl, hr.out, Nat.le_refl _, Nat.zero_le _⟩, New.refl w⟩
  · obtain ⟨b, off, rfl, hb, hcs⟩ := h.2.2 h0
    have hnews : Hid (∀ j u, (rowN B n)[j]? = some u → w.cell? ((⟨b, off, none⟩ : Addr).add j) = some u) := fun j u hj => by
      have hjn : j < n := by
        rcases Nat.lt_or_ge j n with h | h
        · exact h
        · rw [List.getElem?_eq_none (by rw [rowN_len]; exact h)] at hj; cases hj
      rw [rowN_at B n j hjn] at hj
      rw [add_cell, hcs j hjn]
      exact hj
    have hB := Lib.hid h.2.1
    have hn1 := Lib.hid hn
    clear h hcs hn
    go_enter Try.func32, Try.ntmps32
    go_wp2_with (at_builtin; refine wpList_append_own _ rfl _ _ 42 rfl w.heap.size 5 i0 _ 1 1 Try.underlying42 hi0 hz0 hz1 hz2 rfl (by decide) (.slice none 0 0) 0 [] rfl (World.ownsRow_nil _ _ _ _) ⟨b, off, none⟩ n c (rowN B n) rfl (by rw [rowN_len, Nat.mul_one]) hnews.out (bytes_one _ _) (by have := hn1.out; unfold maxLen; omega) (by have := hn1.out; omega) (Nat.le_refl _) ?_; intro v3 w3 hown hgrow hnil)
    rw [Nat.zero_add, List.nil_append] at hown
    have hN := New.grown (New.refl w) hgrow fun g hg => by cases hg
    obtain ⟨A3, c3, rfl, h1, h2, hrd, _⟩ := own_rdB hown hB.out (by have := hn1.out; unfold maxLen; omega)
    have hrd3 := Lib.hid hrd
    have hcc := Lib.hid (And.intro h1 h2)
    clear hown hgrow hnil hrd h1 h2
    go_wp2
    go_ret
    exact ⟨⟨_, _, rfl, hrd3.out, hcc.out.1, hcc.out.2⟩, hN⟩
/-- both decode alike -/
theorem both (n : Nat) (B : Nat → Nat) (hm : n ≤ maxLen) : ∃ (Z : Nat → Int) (cd : Int),
    Hid (∀ A' c' w', RdB w' A' n B → n ≤ c' → c' ≤ maxLen → Calls Try.prog 31 #[.slice A' n c'] w' fun e w'' => e = .returned (.tuple #[.agg (labC Z), .int .i64 cd]) ∧ New w' w'') ∧
    Hid (∀ A' c' w', RdB w' A' n B → n ≤ c' → c' ≤ maxLen → Calls Try.prog 33 #[.slice A' n c'] w' fun e w'' => e = .returned (.tuple #[.agg (labC Z), .int .i64 cd]) ∧ New w' w'') := by
  by_cases hn : n = 128
  · subst hn
    exact ⟨_, _, fun A' c' w' h1 h2 h3 => Decode_ok c' A' B w' h1 h2 h3, fun A' c' w' h1 h2 h3 => LabelDecoded_ok c' A' B w' h1 h2 h3⟩
  · exact ⟨fun _ => 0, 1, fun A' c' w' h1 h2 h3 => Decode_len n c' A' w' hm hn, fun A' c' w' h1 h2 h3 => LabelDecoded_len n c' A' w' hm hn⟩
set_option maxRecDepth 100000 in
theorem core (A : Option Addr) (n c : Nat) (B : Nat → Nat) (w : World) (h : RdB w A n B) (hc : n ≤ c) (hcm : c ≤ maxLen) (hn : n ≤ 140737488351232) :
    Calls Try.prog 11 #[.slice A n c] w fun e w' => e = .returned (.bool true) ∧ New w w' := by
  obtain ⟨Z, cd, hD, hL⟩ := both n B h.1
  have h0 := Lib.hid h
  clear h
  go_enter Try.func11, Try.ntmps11
  go_wp2_with fail
  refine (octets_any A n c B _ h0.out hn).mono ?_
  rintro e w1 ⟨⟨A1, c1, rfl, hr1, hc1, hm1⟩, hn1⟩
  have hr1' := Lib.hid hr1
  have hN1 := Lib.hid hn1
  clear hr1 hn1
  go_wp2_with fail
  refine (hD.out A1 c1 _ hr1'.out hc1 hm1).mono ?_
  rintro e w2 ⟨rfl, hn2⟩
  have hN2 := Lib.hid ((hN1.out.next hn2).alloc (.cells (labC Z) 41))
  have hb2 := Lib.hid (Blk.fresh w2 41 (labC Z))
  clear hn2
  go_wp2_with fail
  refine (hL.out A c _ (h0.out.new hN2.out) hc hcm).mono ?_
  rintro e w3 ⟨rfl, hn3⟩
  have hN3 := Lib.hid ((hN2.out.next hn3).alloc (.cells (labC Z) 41))
  have hb3 := hb2.out.new hn3
  have hlt : w2.heap.size < w3.heap.size := hb3.lt
  obtain ⟨r0, r1, r2, r3, r4, r5, r6, r7, r8, r9, r10, r11, r12⟩ := cells13 hb3
  clear hn3
  go_wp2
  go_ret
  exact ⟨by simp, hN3.out⟩
set_option maxRecDepth 100000 in
theorem walk {H : Type} (enc : TypeId × Value → H) (W : World) {base : Nat} {v0 : Value} {d0 : DataW H} {p0 : List MemPlace} (ok0 : Value.okWide Try.prog W .any base 42 v0) (h0 : DataW.Trod enc Try.prog W 0 (fun _ => true) true 42 v0 d0 p0)
    (hsz : (DataW.weightsEach Try.prog (Try.f11.params.toList ++ Rows.labelDecodesSpec.plain.varTypes Try.prog) ([d0] ++ [])).all (· ≤ reachBytes) = true) :
    Calls Try.prog 11 #[v0] W fun e W' => e = .returned (.bool true) ∧ Below W.heap.size W W' := by
  obtain ⟨A, n, c, B, rfl, hB, hcap, hcm, hd⟩ := open_bytes ok0 h0
  refine core A n c B W hB hcap hcm ?_
  rcases hd with h0 | ⟨elems, spare, rfl, hl⟩
  · omega
  · have h1 := sized_slice (j := 0) hsz rfl rfl Try.underlying42
    rw [show Try.prog.bytesOf 5 = 1 by kernel_rfl, hl, Nat.mul_one] at h1
    have h2 : reachBytes = 140737488351232 := by decide
    omega
end Go.Proofs.Ythkgcbjfgglciaa.labelDecodes
