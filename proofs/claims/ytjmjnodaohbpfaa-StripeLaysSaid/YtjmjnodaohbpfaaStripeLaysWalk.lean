/-
  The walk of the law StripeLays.
-/
import Derived.Test.YtjmjnodaohbpfaaRows
import Derived.Test.YtjmjnodaohbpfaaStripeRef
import Derived.Test.YtjmjnodaohbpfaaLists
namespace Go.Proofs.Ytjmjnodaohbpfaa.stripeLays
open Go.ChangeShapes Go.WideShapes Go.ChangeAt Go.RowKit Go.Proofs.Ytjmjnodaohbpfaa.kit Go.Proofs.Ytjmjnodaohbpfaa.stripe Go.Proofs.Ytjmjnodaohbpfaa.geom Go.Proofs.Ytjmjnodaohbpfaa.lists
set_option linter.unusedVariables false
set_option maxRecDepth 100000
def OctPost (n : Nat) (f : Nat → Nat) (w : World) (e : Ending) (w' : World) : Prop := (∃ g cap, e = .returned (.slice (some ⟨g, 0, none⟩) n cap) ∧ RowK 5 .u8 w' g n f) ∧ New w w'
theorem octets_any (b off n c : Nat) (f : Nat → Nat) (w : World) (h : ∀ j, j < n → w.cell? ⟨b, off + j, none⟩ = some (.int .u8 (f j : Nat))) (hn : 0 < n) (hn2 : n ≤ 140737488351232) :
    Calls Try.prog 16 #[.slice (some ⟨b, off, none⟩) n c] w (OctPost n f w) := by
  obtain ⟨i0, hi0, hz0, hz1, hz2⟩ := info_parts infoU8
  have hsrc := Lib.hid (numL_src h)
  have hone := Lib.hid (numL_one .u8 f n)
  have hlen : Hid ((numL .u8 f n).length = n) := numL_len .u8 f n
  have hn3 := Lib.hid hn2
  clear h hn2
  go_enter Try.func16, Try.ntmps16
  go_wp2_with (at_builtin; refine wpList_append_own _ rfl _ _ 32 rfl w.heap.size 5 i0 _ 1 1 Try.underlying32 hi0 hz0 hz1 hz2 rfl (by decide) (Value.slice none 0 0) 0 [] rfl (World.ownsRow_nil _ _ _ _) ⟨b, off, none⟩ n c (numL .u8 f n) rfl (by rw [hlen.out]; omega) hsrc.out hone.out (by have := hn3.out; unfold maxLen; omega) (by have := hn3.out; omega) (Nat.le_refl _) ?_; intro v3 w3 hown3 hgrow hnil; obtain ⟨g3, c3, rfl, hg3a, hg3b⟩ := hown3.form (by omega))
  have hN : New w w3 := New.of_grown hgrow
  rw [List.nil_append, Nat.zero_add] at hown3
  have hr := Lib.hid (RowK.of_own hown3)
  clear hgrow hnil hown3
  go_wp2
  go_ret
  exact ⟨⟨g3, c3, rfl, hr.out⟩, hN⟩
theorem octets_nil (A : Option Addr) (c : Nat) (w : World) :
    Calls Try.prog 16 #[.slice A 0 c] w fun e w' => (∃ A' c', e = .returned (.slice A' 0 c')) ∧ New w w' := by
  cases A with
  | none =>
    go_enter Try.func16, Try.ntmps16
    go_wp2
    go_ret
    exact ⟨⟨_, _, rfl⟩, New.refl w⟩
  | some a =>
    go_enter Try.func16, Try.ntmps16
    go_wp2
    go_ret
    exact ⟨⟨_, _, rfl⟩, New.refl w⟩
/-- lists of bytes with a code -/
def LsAns (n : Nat) (L : Nat → Nat) (M : Nat → Nat → Nat) (cd : Int) (w : World) (e : Ending) (w' : World) : Prop :=
  (∃ A c R C, e = .returned (.tuple #[.slice A n c, .int .i64 cd]) ∧ RdM .u8 w' A n R L C (fun i k => (M i k : Nat))) ∧ New w w'
theorem LsAns.nil {cd : Int} {w w' : World} {e : Ending} (h : e = .returned (.tuple #[.slice none 0 0, .int .i64 cd]) ∧ New w w') : LsAns 0 (fun _ => 0) (fun _ _ => 0) cd w e w' :=
  ⟨⟨none, 0, fun _ => none, fun _ => 0, h.1, Nat.zero_le _, fun h => absurd h (Nat.lt_irrefl 0), fun i h => absurd h (Nat.not_lt_zero i)⟩, h.2⟩
theorem core_of (d p a : Int) (A : Option Addr) (n c : Nat) (m : Nat) (L : Nat → Nat) (M : Nat → Nat → Nat) (cd : Int) (w : World)
    (h1 : Calls Try.prog 16 #[.slice A n c] w fun e w' => (∃ v, e = .returned v ∧ ∀ w2, New w' w2 → Calls Try.prog 15 #[.int .i64 d, .int .i64 p, .int .i64 a, v] w2 (LsAns m L M cd w2)) ∧ New w w')
    (h2 : ∀ w', New w w' → Calls Try.prog 17 #[.int .i64 d, .int .i64 p, .int .i64 a, .slice A n c] w' (LsAns m L M cd w')) :
    Calls Try.prog 6 #[.int .i64 d, .int .i64 p, .int .i64 a, .slice A n c] w fun e w' => e = .returned (.bool true) ∧ New w w' := by
  have g1 := Lib.hid h1
  have g2 := Lib.hid h2
  clear h1 h2
  go_enter Try.func6, Try.ntmps6
  go_wp2_with fail
  refine g1.out.mono ?_
  rintro e w1 ⟨⟨v, rfl, hL⟩, hn1⟩
  replace hL := Lib.hid hL
  go_wp2_with fail
  refine (hL.out _ (New.refl _)).mono ?_
  rintro e w2 ⟨⟨B1, d1, R1, C1, rfl, hr1⟩, hn2⟩
  have hN2 := hn1.next hn2
  replace hr1 := Lib.hid hr1
  clear hL
  go_wp2_with fail
  refine (g2.out _ hN2).mono ?_
  rintro e w3 ⟨⟨B2, d2, R2, C2, rfl, hr2⟩, hn3⟩
  have hr3 := Lib.hid (hr1.out.new hn3)
  replace hr2 := Lib.hid hr2
  go_wp2_with fail
  refine (sameLists_eq _ _ _ _ _ _ _ _ _ _ _ _ _ _ hr3.out hr2.out fun i hi => ⟨rfl, fun j hj => rfl⟩).mono ?_
  rintro e w4 ⟨rfl, hn4⟩
  go_wp2
  go_ret
  exact ⟨by simp, (hN2.next hn3).next hn4⟩
theorem core (d p a : Int) (A : Option Addr) (n c : Nat) (X : Nat → Nat) (w : World) (hA : RdI .u8 w A n (fun k => (X k : Nat))) (hX8 : ∀ k, X k < 256) (hn : n ≤ 140737488351232) :
    Calls Try.prog 6 #[.int .i64 d, .int .i64 p, .int .i64 a, .slice A n c] w fun e w' => e = .returned (.bool true) ∧ New w w' := by
  have hnm := hA.1
  have hoct : Calls Try.prog 16 #[.slice A n c] w fun e w' => (∃ A' c', e = .returned (.slice A' n c') ∧ (0 < n → ∃ g, A' = some ⟨g, 0, none⟩ ∧ RowK 5 .u8 w' g n X)) ∧ New w w' := by
    rcases Nat.eq_zero_or_pos n with h0 | h0
    · subst h0
      exact (octets_nil A c w).mono fun e w' ⟨⟨A', c', h1⟩, h2⟩ => ⟨⟨A', c', h1, fun h => absurd h (Nat.lt_irrefl 0)⟩, h2⟩
    · obtain ⟨b, off, rfl, hb, hcs⟩ := hA.2 h0
      exact (octets_any b off n c X w hcs h0 hn).mono fun e w' ⟨⟨g, cap, h1, h2⟩, h3⟩ => ⟨⟨_, cap, h1, fun _ => ⟨g, rfl, h2⟩⟩, h3⟩
  by_cases hl : 1 ≤ n ∧ n ≤ 4096
  · by_cases hg : mayP d p ∧ cntP ((n + 127) / 128 : Nat) ∧ adrP a
    · obtain ⟨g1, g2, g3⟩ := hg
      unfold mayP at g1
      unfold cntP at g2
      unfold adrP at g3
      obtain ⟨dr, rfl⟩ : ∃ k : Nat, d = (k : Int) := ⟨d.toNat, by omega⟩
      obtain ⟨pa, rfl⟩ : ∃ k : Nat, p = (k : Int) := ⟨p.toNat, by omega⟩
      obtain ⟨ad, rfl⟩ : ∃ k : Nat, a = (k : Int) := ⟨a.toNat, by omega⟩
      obtain ⟨wd, hwd⟩ : ∃ wd, dr = pa + wd := ⟨dr - pa, by omega⟩
      obtain ⟨b, off, rfl, hb, hcs⟩ := hA.2 (by omega)
      refine core_of dr pa ad _ n c (numP dr pa ((n + 127) / 128) wd) (layL pa ((n + 127) / 128) wd) (layM X n pa ((n + 127) / 128) wd) 0 w (hoct.mono fun e w' ⟨⟨A', c', h1, h2⟩, h3⟩ => ⟨⟨_, h1, fun w2 hn2 => ?_⟩, h3⟩) (fun w' hn' => ?_)
      · obtain ⟨g, rfl, hr⟩ := h2 (by omega)
        exact Lay_ok dr pa ad wd _ g 0 n c' X (by omega) (by omega) (by omega) (by omega) hwd (by omega) (by omega) hl rfl w2 (fun k hk => by rw [Nat.zero_add]; exact (hr.new hn2).cell hk) hX8 (hr.new hn2).lt
      · exact StripeLay_ok dr pa ad wd _ b off n c X (by omega) (by omega) (by omega) (by omega) hwd (by omega) (by omega) hl rfl w' (fun k hk => (hn'.cell (p := ⟨b, off + k, none⟩) hb).trans (hcs k hk)) hX8 (Nat.lt_of_lt_of_le hb hn'.size)
    · exact core_of d p a A n c 0 (fun _ => 0) (fun _ _ => 0) 2 w (hoct.mono fun e w' ⟨⟨A', c', h1, _⟩, h3⟩ => ⟨⟨_, h1, fun w2 hn2 => (Lay_geom d p a A' n c' w2 hl hg).mono fun e w' h => LsAns.nil h⟩, h3⟩) (fun w' hn' => (StripeLay_geom d p a A n c w' hl hg).mono fun e w' h => LsAns.nil h)
  · exact core_of d p a A n c 0 (fun _ => 0) (fun _ _ => 0) 1 w (hoct.mono fun e w' ⟨⟨A', c', h1, _⟩, h3⟩ => ⟨⟨_, h1, fun w2 hn2 => (Lay_len d p a A' n c' w2 hnm hl).mono fun e w' h => LsAns.nil h⟩, h3⟩) (fun w' hn' => (StripeLay_len d p a A n c w' hnm hl).mono fun e w' h => LsAns.nil h)
set_option maxRecDepth 100000 in
theorem walk {H : Type} (enc : TypeId × Value → H) (W : World) {base : Nat} {v0 : Value} {d0 : DataW H} {p0 : List MemPlace} (ok0 : Value.okWide Try.prog W .any base 3 v0) (h0 : DataW.Trod enc Try.prog W 0 (fun _ => true) true 3 v0 d0 p0) {v1 : Value} {d1 : DataW H} {p1 : List MemPlace} (ok1 : Value.okWide Try.prog W .any base 3 v1) (h1 : DataW.Trod enc Try.prog W 0 (fun _ => true) true 3 v1 d1 p1) {v2 : Value} {d2 : DataW H} {p2 : List MemPlace} (ok2 : Value.okWide Try.prog W .any base 3 v2) (h2 : DataW.Trod enc Try.prog W 0 (fun _ => true) true 3 v2 d2 p2) {v3 : Value} {d3 : DataW H} {p3 : List MemPlace} (ok3 : Value.okWide Try.prog W .any base 32 v3) (h3 : DataW.Trod enc Try.prog W 0 (fun _ => true) true 32 v3 d3 p3)
    (hsz : (DataW.weightsEach Try.prog (Try.f6.params.toList ++ Rows.stripeLaysSpec.plain.varTypes Try.prog) ([d0, d1, d2, d3] ++ [])).all (· ≤ reachBytes) = true) :
    Calls Try.prog 6 #[v0, v1, v2, v3] W fun e W' => e = .returned (.bool true) ∧ Below W.heap.size W W' := by
  obtain ⟨a0, rfl, rfl, rfl, w0⟩ := open_int Try.underlying3 ok0 h0
  obtain ⟨a1, rfl, rfl, rfl, w1⟩ := open_int Try.underlying3 ok1 h1
  obtain ⟨a2, rfl, rfl, rfl, w2⟩ := open_int Try.underlying3 ok2 h2
  obtain ⟨A, n, c, rfl⟩ := okWide_slice Try.underlying32 ok3
  obtain ⟨fuel, hf⟩ := h3
  obtain ⟨A', n', c', Z, he, hr, hnc, hcm, hwf, hd⟩ := open_rowI Try.underlying32 Try.underlying5 (by kernel_rfl) hf
  cases he
  have hwb : ∀ k, k < n → 0 ≤ Z k ∧ Z k ≤ 255 := fun k hk => bounds_u8 (hwf k hk)
  obtain ⟨X, hX⟩ : ∃ X : Nat → Nat, X = fun k => if k < n then (Z k).toNat else 0 := ⟨_, rfl⟩
  have hA : RdI .u8 W A n (fun k => (X k : Nat)) := ⟨hr.1, fun h0 => by
    obtain ⟨b, off, h1, h2, h3⟩ := hr.2 h0
    refine ⟨b, off, h1, h2, fun i hi => ?_⟩
    rw [h3 i hi, hX]
    have := hwb i hi
    simp only [if_pos hi]
    congr 2
    omega⟩
  have hX8 : ∀ k, X k < 256 := fun k => by
    rw [hX]
    by_cases hk : k < n
    · have := hwb k hk
      simp only [if_pos hk]
      omega
    · simp only [if_neg hk]
      omega
  refine core _ _ _ A n c X W hA hX8 ?_
  rcases hd with h0 | ⟨elems, spare, hde, hl⟩
  · omega
  · have hd3 : d3 = .slice elems spare := hde
    subst hd3
    have h1 := sized_slice (j := 3) hsz rfl rfl Try.underlying32
    rw [show Try.prog.bytesOf 5 = 1 by kernel_rfl, hl, Nat.mul_one] at h1
    have h2 : reachBytes = 140737488351232 := by decide
    omega
end Go.Proofs.Ytjmjnodaohbpfaa.stripeLays
