/-
  Commands: what is left of one when signs have been taken; desk.field; the memory's step.
-/
import Derived.Test.YtaommipcdcncnaaDoorDeskWords
import Derived.Lib.OthersKept
namespace Go.Proofs.YtaommipcdcncnaaDoor.desk
open Go.ChangeShapes Go.WideShapes Go.ChangeAt Go.RowKit Go.Proofs.YtaommipcdcncnaaDoor.kit Go.Deep
set_option linter.unusedVariables false
set_option maxRecDepth 100000
structure Cu where
  nm : Tx
  ot : Tx
  off : Int
  cnt : Int
  drv : Int
  kp : Int
  R : Option Addr
  dn : Nat
  dc : Nat
def cuA (k : Int) (c : Cu) : Array Value := #[.int .i64 k, encStr c.nm, encStr c.ot, .int .i64 c.off, .int .i64 c.cnt, .int .i64 c.drv, .int .i64 c.kp, .slice c.R c.dn c.dc]
/-- a sign's field is emptied -/
def clr (s : UInt8) (c : Cu) : Cu :=
  if s = 110 then { c with nm := [] } else if s = 111 then { c with ot := [] } else if s = 102 then { c with off := 0 } else if s = 99 then { c with cnt := 0 } else if s = 100 then { c with drv := 0 } else if s = 107 then { c with kp := 0 } else { c with R := none, dn := 0, dc := 0 }
/-- a sign's word -/
def part (f : Nat → Nat) (s : UInt8) (c : Cu) : Tx :=
  if s = 110 then c.nm else if s = 111 then c.ot else if s = 102 then Lib.itoa c.off else if s = 99 then Lib.itoa c.cnt else if s = 100 then Lib.itoa c.drv else if s = 107 then Lib.itoa c.kp else hexT f c.dn
def badS (s : UInt8) (c : Cu) : Bool := (decide (s = 110) && !goodN c.nm) || (decide (s = 111) && !goodN c.ot)
def goS (f : Nat → Nat) : Tx → Cu → Option (List Tx × Cu)
  | [], c => some ([], c)
  | s :: r, c => if badS s c = true then none else (goS f r (clr s c)).map fun q => (part f s c :: q.1, q.2)
/-- what holds of a command, whatever has been taken of it -/
structure CuOk (w : World) (f : Nat → Nat) (c : Cu) : Prop where
  nl : c.nm.length ≤ 1048576
  ol : c.ot.length ≤ 1048576
  o0 : -9223372036854775808 ≤ c.off
  o1 : c.off ≤ 9223372036854775807
  c0 : -9223372036854775808 ≤ c.cnt
  c1 : c.cnt ≤ 9223372036854775807
  d0 : -9223372036854775808 ≤ c.drv
  d1 : c.drv ≤ 9223372036854775807
  k0 : -9223372036854775808 ≤ c.kp
  k1 : c.kp ≤ 9223372036854775807
  dat : RdI .u8 w c.R c.dn (fun i => (f i : Nat))
  n1 : c.dn ≤ 1048576
theorem CuOk.new {w w' : World} {f : Nat → Nat} {c : Cu} (h : CuOk w f c) (hn : New w w') : CuOk w' f c := ⟨h.nl, h.ol, h.o0, h.o1, h.c0, h.c1, h.d0, h.d1, h.k0, h.k1, h.dat.new hn, h.n1⟩
theorem z0 : (-9223372036854775808 : Int) ≤ 0 := by decide
theorem z1 : (0 : Int) ≤ 9223372036854775807 := by decide
theorem CuOk.clr {w : World} {f : Nat → Nat} {c : Cu} (h : CuOk w f c) (s : UInt8) : CuOk w f (clr s c) := by
  unfold desk.clr
  split
  · exact ⟨Nat.zero_le _, h.ol, h.o0, h.o1, h.c0, h.c1, h.d0, h.d1, h.k0, h.k1, h.dat, h.n1⟩
  split
  · exact ⟨h.nl, Nat.zero_le _, h.o0, h.o1, h.c0, h.c1, h.d0, h.d1, h.k0, h.k1, h.dat, h.n1⟩
  split
  · exact ⟨h.nl, h.ol, z0, z1, h.c0, h.c1, h.d0, h.d1, h.k0, h.k1, h.dat, h.n1⟩
  split
  · exact ⟨h.nl, h.ol, h.o0, h.o1, z0, z1, h.d0, h.d1, h.k0, h.k1, h.dat, h.n1⟩
  split
  · exact ⟨h.nl, h.ol, h.o0, h.o1, h.c0, h.c1, z0, z1, h.k0, h.k1, h.dat, h.n1⟩
  split
  · exact ⟨h.nl, h.ol, h.o0, h.o1, h.c0, h.c1, h.d0, h.d1, z0, z1, h.dat, h.n1⟩
  · exact ⟨h.nl, h.ol, h.o0, h.o1, h.c0, h.c1, h.d0, h.d1, h.k0, h.k1, ⟨Nat.zero_le _, fun h => absurd h (Nat.lt_irrefl 0)⟩, Nat.zero_le _⟩
theorem part_len {w : World} {f : Nat → Nat} {c : Cu} (h : CuOk w f c) (s : UInt8) : (part f s c).length ≤ 2097153 := by
  have hx : (hexT f c.dn).length ≤ 2097153 := by
    have := h.n1
    unfold hexT
    split
    · simp
    · rw [hexN_len]; omega
  have h1 := itoa_len21 h.o0 h.o1
  have h2 := itoa_len21 h.c0 h.c1
  have h3 := itoa_len21 h.d0 h.d1
  have h4 := itoa_len21 h.k0 h.k1
  have h5 := h.nl
  have h6 := h.ol
  unfold part
  split
  · omega
  split
  · omega
  split
  · omega
  split
  · omega
  split
  · omega
  split
  · omega
  · exact hx
theorem signs_ok : ∀ i, i < 19 → ((wordK i).2.length ≤ 4 ∧ ∀ s ∈ (wordK i).2, s = 110 ∨ s = 111 ∨ s = 102 ∨ s = 99 ∨ s = 100 ∨ s = 107 ∨ s = 120) := by decide
theorem word_len : ∀ i, i < 19 → (wordK i).1.length ≤ 10 := by decide
/-- the iterator goes on: all else stands -/
theorem alt_iterAt {w : World} {k : Nat} {s : ByteArray} {pos pos' : Nat} (hk : w.heap[k]? = some (.stringIter s pos)) : Alt (fun g => g = k) w (w.iterAt k s pos') := by
  have hlt : k < w.heap.size := (Array.getElem?_eq_some_iff.1 hk).1
  refine ⟨rfl, rfl, rfl, ?_, fun i hi hne => ?_⟩
  · simp [World.iterAt]
  · simp only [World.iterAt]
    rw [Array.getElem?_setIfInBounds_ne (fun e => hne e.symm)]
theorem step_mem {w w2 w6 : World} {P I n n6 pos : Nat} {cs : Array Value} {x ov v6 : Value} {xs xs6 : List Value} {t : TypeId} {s : ByteArray} (ht : t ≠ 9) (hb : Blk w2 P t cs) (ho : w2.ownsRow w.heap.size 9 1 ov n xs) (hi : w2.heap[I]? = some (.stringIter s pos)) (hN : New w w2) (hP : w.heap.size ≤ P)
    (hg : (w2.alloc (.cells #[x] 9)).grownBy w6 ov.ownBlock) (ho6 : w6.ownsRow w.heap.size 9 1 v6 n6 xs6) (j : Nat) (z : Value) :
    Blk w6 P t cs ∧ Blk (w6.setCell ⟨P, j, none⟩ z) P t (cs.setIfInBounds j z) ∧ (w6.setCell ⟨P, j, none⟩ z).ownsRow w.heap.size 9 1 v6 n6 xs6 ∧ (w6.setCell ⟨P, j, none⟩ z).heap[I]? = some (.stringIter s pos) ∧ New w (w6.setCell ⟨P, j, none⟩ z) := by
  have hoa := ho.alloc (.cells #[x] 9)
  have hb6 : Blk w6 P t cs := (hb.alloc _).grown hg (own_ne_blk hoa (hb.alloc _) (Ne.symm ht))
  have hIlt : I < w2.heap.size := (Array.getElem?_eq_some_iff.1 hi).1
  have hia : (w2.alloc (.cells #[x] 9)).heap[I]? = some (.stringIter s pos) := by rw [Lib.alloc_old w2 _ I hIlt]; exact hi
  have hne : ov.ownBlock ≠ some I := fun e => by
    rcases hoa.2 with ⟨h0, _⟩ | ⟨g', cap, cur, h0, _, hg0, _⟩
    · rw [h0] at e; cases e
    · rw [h0] at e
      have : g' = I := by simpa [Value.ownBlock] using e
      subst this
      rw [hia] at hg0
      cases hg0
  have hi6 : w6.heap[I]? = some (.stringIter s pos) := by
    rw [hg.block I (by simp; omega) fun e => hne e.symm]
    exact hia
  have hPI : P ≠ I := fun e => by
    subst e
    have := hb6
    unfold Blk at this
    rw [hi6] at this
    cases this
  have ha : Alt (fun g => g = P) w6 (w6.setCell ⟨P, j, none⟩ z) := Alt.set (K := fun g => g = P) (Alt.refl w6) (.inl rfl) _
  have hN6 : New w w6 := (hN.alloc _).grown hg fun r e => (ho.lt r e).1
  refine ⟨hb6, hb6.put j z, Alt.own ha ho6 fun g hg e => ?_, ?_, hN6.set (by dsimp only; omega) _⟩
  · subst e
    exact own_ne_blk ho6 hb6 (Ne.symm ht) hg
  · rw [ha.same I (by have := (Array.getElem?_eq_some_iff.1 hi6).1; exact this) (fun e => hPI e.symm)]
    exact hi6
theorem field_n (P : Nat) (w : World) : Calls Tryd.prog 26 #[.pointer (some ⟨P, 0, none⟩), .int .i32 110] w fun e w' => e = .returned (.tuple #[.pointer (some ⟨P, 1, none⟩), .pointer none, .pointer none]) ∧ w = w' := by
  go_enter Tryd.func26, Tryd.ntmps26
  go_wp2
  exact bodyPost_ret (v := .tuple #[.pointer (some ⟨P, 1, none⟩), .pointer none, .pointer none]) (by simp [results, Tryd.results26, go_sem]) rfl ⟨rfl, rfl⟩
theorem field_o (P : Nat) (w : World) : Calls Tryd.prog 26 #[.pointer (some ⟨P, 0, none⟩), .int .i32 111] w fun e w' => e = .returned (.tuple #[.pointer (some ⟨P, 2, none⟩), .pointer none, .pointer none]) ∧ w = w' := by
  go_enter Tryd.func26, Tryd.ntmps26
  go_wp2
  exact bodyPost_ret (v := .tuple #[.pointer (some ⟨P, 2, none⟩), .pointer none, .pointer none]) (by simp [results, Tryd.results26, go_sem]) rfl ⟨rfl, rfl⟩
theorem field_f (P : Nat) (w : World) : Calls Tryd.prog 26 #[.pointer (some ⟨P, 0, none⟩), .int .i32 102] w fun e w' => e = .returned (.tuple #[.pointer none, .pointer (some ⟨P, 3, none⟩), .pointer none]) ∧ w = w' := by
  go_enter Tryd.func26, Tryd.ntmps26
  go_wp2
  exact bodyPost_ret (v := .tuple #[.pointer none, .pointer (some ⟨P, 3, none⟩), .pointer none]) (by simp [results, Tryd.results26, go_sem]) rfl ⟨rfl, rfl⟩
theorem field_c (P : Nat) (w : World) : Calls Tryd.prog 26 #[.pointer (some ⟨P, 0, none⟩), .int .i32 99] w fun e w' => e = .returned (.tuple #[.pointer none, .pointer (some ⟨P, 4, none⟩), .pointer none]) ∧ w = w' := by
  go_enter Tryd.func26, Tryd.ntmps26
  go_wp2
  exact bodyPost_ret (v := .tuple #[.pointer none, .pointer (some ⟨P, 4, none⟩), .pointer none]) (by simp [results, Tryd.results26, go_sem]) rfl ⟨rfl, rfl⟩
theorem field_d (P : Nat) (w : World) : Calls Tryd.prog 26 #[.pointer (some ⟨P, 0, none⟩), .int .i32 100] w fun e w' => e = .returned (.tuple #[.pointer none, .pointer (some ⟨P, 5, none⟩), .pointer none]) ∧ w = w' := by
  go_enter Tryd.func26, Tryd.ntmps26
  go_wp2
  exact bodyPost_ret (v := .tuple #[.pointer none, .pointer (some ⟨P, 5, none⟩), .pointer none]) (by simp [results, Tryd.results26, go_sem]) rfl ⟨rfl, rfl⟩
theorem field_k (P : Nat) (w : World) : Calls Tryd.prog 26 #[.pointer (some ⟨P, 0, none⟩), .int .i32 107] w fun e w' => e = .returned (.tuple #[.pointer none, .pointer (some ⟨P, 6, none⟩), .pointer none]) ∧ w = w' := by
  go_enter Tryd.func26, Tryd.ntmps26
  go_wp2
  exact bodyPost_ret (v := .tuple #[.pointer none, .pointer (some ⟨P, 6, none⟩), .pointer none]) (by simp [results, Tryd.results26, go_sem]) rfl ⟨rfl, rfl⟩
theorem field_x (P : Nat) (w : World) : Calls Tryd.prog 26 #[.pointer (some ⟨P, 0, none⟩), .int .i32 120] w fun e w' => e = .returned (.tuple #[.pointer none, .pointer none, .pointer (some ⟨P, 7, none⟩)]) ∧ w = w' := by
  go_enter Tryd.func26, Tryd.ntmps26
  go_wp2
  exact bodyPost_ret (v := .tuple #[.pointer none, .pointer none, .pointer (some ⟨P, 7, none⟩)]) (by simp [results, Tryd.results26, go_sem]) rfl ⟨rfl, rfl⟩
end Go.Proofs.YtaommipcdcncnaaDoor.desk
