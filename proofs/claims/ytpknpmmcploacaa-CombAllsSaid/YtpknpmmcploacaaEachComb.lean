/-
  Contracts of slices.Clone over numbers, and of comb.Each: its picks come one by one.
-/
import Derived.Test.YtpknpmmcploacaaCombPick
import Derived.Test.YtpknpmmcploacaaEach
import Derived.Shelf.Abstract
import Derived.Shelf.RegionOpen
import Derived.OwnWalkIn
import Derived.TacticsInMore
import Derived.LoopNIn
import Derived.LoopIn
import Derived.Lib.JoinLaws
import Derived.Laws.EntriesVeiled
namespace Go.Proofs.Ytpknpmmcploacaa.comb
open Go.ChangeShapes Go.WideShapes Go.ChangeAt Go.RowKit Go.Proofs.Ytpknpmmcploacaa.kit Go.Proofs.Ytpknpmmcploacaa.each Go.Deep
set_option linter.unusedVariables false

theorem Clone_list (b off n c : Nat) (l : List Nat) (w : World) (h : ∀ j u, (l.map encN)[j]? = some u → w.cell? ⟨b, off + j, none⟩ = some u) (hn : l.length = n) (hn2 : n ≤ 8192) (hb : b < w.heap.size) :
    Calls Try.prog 58 #[.slice (some ⟨b, off, none⟩) n c] w fun e w' => ∃ v, e = .returned v ∧ w'.ownsRow w.heap.size 3 1 v n (l.map encN) ∧ New w w' := by
  obtain ⟨i0, hi0, hz0, hz1, hz2⟩ := info_parts infoInt
  have hsrc : Hid (∀ j u, (l.map encN)[j]? = some u → (w.alloc (.cells #[] 3)).cell? ((⟨b, off, none⟩ : Addr).add j) = some u) := fun j u hu => by
    rw [add_cell]
    exact (((New.refl w).alloc _).cell (p := ⟨b, off + j, none⟩) hb).trans (h j u hu)
  have hone := Lib.hid (oneCell_ints l)
  have hlen : Hid ((l.map encN).length = n) := by show _ = _; simp [hn]
  have hlit := World.ownsRow_lit (e := 3) (size := 1) w #[] 0 (Nat.le_refl _) (by unfold maxLen; omega) rfl
  have hnb := fun w => Lib.run_eql_slice_nil (P := Try.prog) w 24 3 (some ⟨b, off, none⟩) n c 0 0 Try.underlying24
  clear h hn
  go_enter Try.func58, Try.ntmps58
  go_wp2_with (at_builtin; refine wpList_append_own _ rfl _ _ 24 rfl w.heap.size 3 i0 _ 1 8 Try.underlying24 hi0 hz0 hz1 hz2 rfl (by decide) (Value.slice (some ⟨w.heap.size, 0, none⟩) 0 0) 0 [] rfl hlit ⟨b, off, none⟩ n c (l.map encN) rfl (by rw [hlen.out]; omega) hsrc.out hone.out (by unfold maxLen; omega) (by omega) (by simp) ?_; intro v3 w3 hown3 hgrow hnil)
  have hgA : (w.alloc (.cells #[] 3)).grownBy w3 (some w.heap.size) := hgrow
  have hN : New w w3 := (New.refl w).append' hgA (fun g hg => by cases hg; exact Nat.le_refl _)
  rw [List.nil_append, Nat.zero_add] at hown3
  have hfin := Lib.hid (And.intro hown3 hN)
  clear hgrow hnil hown3
  go_wp2
  go_ret
  exact ⟨v3, rfl, hfin.out.1, hfin.out.2⟩

/-- what the iterator's own blocks hold: yield, the pick's row, the pick, the inner function; and the boxes of n and k -/
structure Priv (B bn bk l k n : Nat) (q : List Nat) (W : World) : Prop where
  yb : Boxed W B 82 (.func (.yield l) #[] #[])
  row : W.ownsRow (B + 1) 3 1 (.slice (some ⟨B + 1, 0, none⟩) q.length k) q.length (q.map encN)
  pick : Boxed W (B + 2) 24 (.slice (some ⟨B + 1, 0, none⟩) q.length k)
  walk : Boxed W (B + 3) 62 (.func (.func 57) #[] #[.pointer (some ⟨B + 2, 0, none⟩), .pointer (some ⟨bk, 0, none⟩), .pointer (some ⟨B, 0, none⟩), .pointer (some ⟨bn, 0, none⟩), .pointer (some ⟨B + 3, 0, none⟩)])
  nb : Boxed W bn 3 (.int .i64 n)
  kb : Boxed W bk 3 (.int .i64 k)
  nlt : bn < B
  klt : bk < B
abbrev Kn (bn bk : Nat) : Nat → Prop := fun i => i = bn ∨ i = bk
theorem Boxed.held {Kx : Nat → Prop} {lo hi b : Nat} {t : TypeId} {v : Value} {W W' : World} (h : Boxed W b t v) (hh : Held Kx lo hi W W') (hb : Kx b ∨ lo ≤ b ∧ b < hi) : Boxed W' b t v := hh.at hb h
theorem own_held {Kx : Nat → Prop} {lo hi g n c m base s : Nat} {e : TypeId} {xs : List Value} {W W' : World} (h : W.ownsRow base e s (.slice (some ⟨g, 0, none⟩) n c) m xs) (hh : Held Kx lo hi W W') (hb : lo ≤ g ∧ g < hi) : W'.ownsRow base e s (.slice (some ⟨g, 0, none⟩) n c) m xs := by
  refine ⟨h.1, ?_⟩
  rcases h.2 with h0 | ⟨g', cap, cur, he, hb', hg, hr⟩
  · exact .inl h0
  · cases he
    exact .inr ⟨g, c, cur, rfl, hb', hh.at (.inr hb) hg, hr⟩
theorem Priv.held {B bn bk l k n : Nat} {q : List Nat} {W W' : World} (h : Priv B bn bk l k n q W) (hh : Held (Kn bn bk) B (B + 4) W W') : Priv B bn bk l k n q W' :=
  ⟨Boxed.held h.yb hh (.inr (by omega)), own_held h.row hh (by omega), Boxed.held h.pick hh (.inr (by omega)), Boxed.held h.walk hh (.inr (by omega)), Boxed.held h.nb hh (.inl (.inl rfl)), Boxed.held h.kb hh (.inl (.inr rfl)), h.nlt, h.klt⟩
/-- what a round is handed -/
def ArgI (B : Nat) (x : List Nat) (v : Value) (W : World) : Prop := W.ownsRow B 3 1 v x.length (x.map encN)
theorem ArgI.kept (m : Nat) : ∀ B x v W W' row, ArgI B x v W → W.grownBy W' row → (∀ r, row = some r → r + m < B) → ArgI B x v W' := by
  intro B x v W W' row h hg hr
  refine World.ownsRow.kept h hg ?_
  by_cases hv : v.ownBlock = none
  · exact .inl hv
  · refine .inr fun e => ?_
    obtain ⟨g, hg⟩ := Option.ne_none_iff_exists'.1 hv
    have h1 := (h.lt g hg).1
    have h2 := hr g (by rw [← e, hg])
    omega
theorem grown_drew (W : World) : W.grownBy W.drew none := ⟨rfl, rfl, rfl, Nat.le_refl _, fun _ _ _ => rfl⟩
theorem Priv.grown {B bn bk l k n : Nat} {q : List Nat} {W W' : World} (h : Priv B bn bk l k n q W) (hg : W.grownBy W' none) : Priv B bn bk l k n q W' := h.held (Held.grown hg fun r e => by cases e)
theorem room_wide (k : Nat) : Fence.wide.room k := fun d h => by rw [wide_depth] at h; cases h
theorem yieldAny {m m' : Nat} {P : Program} {l : Nat} {args : Array Value} {W : World} {R : Ending → World → Prop} (h : YieldAt Fence.wide m P l args W R) : YieldAt Fence.wide m' P l args W R := by
  obtain ⟨fn, tmps, assign, body, hy, hR⟩ := h
  exact ⟨fn, tmps, assign, body, hy, hR.1, fun c cs _ => hR.2 c cs (room_wide _)⟩
/-- how the inner function ends -/
def WalkP (J Jx : List (List Nat) → World → Prop) (pre that : List (List Nat)) (Pv : World → Prop) (b : Bool) (W' : World) : Prop :=
  match b with
  | true => J (pre ++ that) W' ∧ Pv W'
  | false => ∃ z, z <+: that ∧ Jx (pre ++ z) W'
end Go.Proofs.Ytpknpmmcploacaa.comb
