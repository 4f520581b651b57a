/-
  Contracts: a matrix is applied to a list.
-/
import Derived.Test.YtidhghcgbomdiaaMatDot
import Derived.Deep.OwnRows
import Derived.Deep.AppendLies
import Derived.OwnWalk
namespace Go.Proofs.Ytidhghcgbomdiaa.mat
open Go.ChangeShapes Go.WideShapes Go.ChangeAt Go.RowKit Go.Proofs.Ytidhghcgbomdiaa.kit Go.Proofs.Ytidhghcgbomdiaa.gf Go.Deep
set_option linter.unusedVariables false

theorem infoInt : (Try.prog.info? 3).map (fun i => (i.zero, i.size, i.bytes)) = some (some (.int .i64 0), 1, 8) := by kernel_rfl
def rowL (f : Nat → Nat) (k : Nat) : List Value := (List.range k).map fun j => .int .i64 (f j : Nat)
theorem rowL_succ (f : Nat → Nat) (k : Nat) : rowL f (k + 1) = rowL f k ++ [.int .i64 (f k : Nat)] := by unfold rowL; rw [List.range_succ]; simp
theorem rowL_len (f : Nat → Nat) (k : Nat) : (rowL f k).length = k := by simp [rowL]
/-- an owned row of numbers, read -/
theorem own_rdI {w : World} {base : Nat} {e : TypeId} {size : Nat} {v : Value} {n : Nat} {f : Nat → Nat} (h : w.ownsRow base e size v n (rowL f n)) :
    ∃ A c, v = .slice A n c ∧ n ≤ c ∧ RdI .i64 w A n (fun i => (f i : Nat)) := by
  obtain ⟨A, c, rfl, h1, h2, h3, h4⟩ := own_open h
  refine ⟨A, c, rfl, h1, by omega, fun h0 => ?_⟩
  obtain ⟨g, rfl, _, hg⟩ := h3 h0
  refine ⟨g, 0, rfl, hg, fun i hi => ?_⟩
  have := h4 g rfl i (.int .i64 (f i : Nat)) (by simp [rowL, hi])
  simpa using this
theorem nil_rdI (w : World) (Z : Nat → Int) : RdI .i64 w none 0 Z := ⟨Nat.zero_le _, fun h => absurd h (Nat.lt_irrefl 0)⟩
theorem sameInts_eq (A B : Option Addr) (n c d : Nat) (Y Z : Nat → Int) (w : World) (hY : RdI .i64 w A n Y) (hZ : RdI .i64 w B n Z) (he : ∀ i, i < n → Y i = Z i) :
    Calls Try.prog 31 #[.slice A n c, .slice B n d] w fun e w' => e = .returned (.bool true) ∧ New w w' := by
  have hm := hY.1
  unfold maxLen at hm
  have he1 := Lib.hid he
  clear he
  go_enter Try.func31, Try.ntmps31
  go_wp2
  go_loopw [5] (fun k wr => ∃ i : Nat, k = .int .i64 i ∧ i ≤ n ∧ New w wr) (fun k _ => n - (intOf k).toNat)
  case atStart => exact ⟨0, rfl, by omega, New.refl w⟩
  case round =>
    obtain ⟨i, rfl, hi, hnw⟩ := hrel
    by_cases hlt : i < n
    · obtain ⟨b, off, rfl, hb, hcs⟩ := hY.2 (by omega)
      obtain ⟨b', off', rfl, hb', hcs'⟩ := hZ.2 (by omega)
      have c0 := (hnw.cell hb).trans (hcs i hlt)
      have c1 := (hnw.cell hb').trans (hcs' i hlt)
      have he := he1.out i hlt
      clear hcs hcs'
      go_wp2
      go_quiet (fail)
      go_wp2
      go_roundw
      case rel => exact ⟨i + 1, by go_num, by omega, hnw.drewN _⟩
      case measure => simp [intOf]; omega
    · have hin : i = n := by omega
      subst hin
      go_wp2
      go_ret
      exact ⟨rfl, hnw⟩
theorem apply1_any (i nr cr nv cv : Nat) (R V : Option Addr) (X Y : Nat → Int) (b1 b2 : Nat) (w : World) (h1 : w.cell? ⟨b1, 0, none⟩ = some (.slice R nr cr)) (h2 : w.cell? ⟨b2, 0, none⟩ = some (.slice V nv cv))
    (hX : RdI .i64 w R nr X) (hY : RdI .i64 w V nv Y) (i1 : i < nr) (i2 : i < nv) :
    Calls Try.prog 49 #[.int .i64 i, .pointer (some ⟨b1, 0, none⟩), .pointer (some ⟨b2, 0, none⟩)] w fun e w' => e = .returned (.tuple #[.int .i64 (X i), .int .i64 (Y i)]) ∧ New w w' := by
  have hm1 := hX.1
  have hm2 := hY.1
  unfold maxLen at hm1 hm2
  obtain ⟨b, off, rfl, hb, hcs⟩ := hX.2 (by omega)
  obtain ⟨b', off', rfl, hb', hcs'⟩ := hY.2 (by omega)
  have c0 := hcs i i1
  have c1 := hcs' i i2
  clear hcs hcs' hX hY
  go_enter Try.func49, Try.ntmps49
  go_wp2
  go_quiet (fail)
  go_wp2
  go_ret2
  exact ⟨rfl, New.of_drewN _ _⟩

theorem enterApply1 : ∀ (args : Array Value) (w : World), (callFunc 49 args).run Try.prog w = .ok (.enter 49 args) w := enter_of (fn := Try.f49) (by rfl) (by kernel_rfl) (by rfl)
def elN (M : Nat → Nat → Int) (i k : Nat) : Nat := (M i k).toNat
def numN (Y : Nat → Int) (k : Nat) : Nat := (Y k).toNat
def apCode (n : Nat) (L : Nat → Nat) (M : Nat → Nat → Int) (nv : Nat) (Y : Nat → Int) : Int := if mayM n L M = true ∧ allE nv Y = true then (if L 0 = nv then 0 else 1) else 4
def apLen (n : Nat) (L : Nat → Nat) (M : Nat → Nat → Int) (nv : Nat) (Y : Nat → Int) : Nat := if apCode n L M nv Y = 0 then n else 0
def apVal (M : Nat → Nat → Int) (nv : Nat) (Y : Nat → Int) (i : Nat) : Nat := dotN (elN M i) (numN Y) nv
theorem apVal_lt (M : Nat → Nat → Int) (nv : Nat) (Y : Nat → Int) (i : Nat) (h : ∀ k, k < nv → elP (M i k)) : apVal M nv Y i < 256 :=
  dotN_lt _ _ _ fun k hk => by have := h k hk; unfold elP at this; unfold elN; omega

theorem Apply_any (A : Option Addr) (n c : Nat) (R : Nat → Option Addr) (L C : Nat → Nat) (M : Nat → Nat → Int) (V : Option Addr) (nv cv : Nat) (Y : Nat → Int) (w : World)
    (hM : RdM .i64 w A n R L C M) (hV : RdI .i64 w V nv Y) :
    Calls Try.prog 29 #[.slice A n c, .slice V nv cv] w fun e w' => ∃ v, e = .returned (.tuple #[v, .int .i64 (apCode n L M nv Y)]) ∧ (∃ B d, v = .slice B (apLen n L M nv Y) d ∧ RdI .i64 w' B (apLen n L M nv Y) (fun i => (apVal M nv Y i : Nat))) ∧ New w w' := by
  have hN0 : New w (w.alloc (.cells #[.slice V nv cv] 30)) := (New.refl w).alloc _
  cases hm : mayM n L M with
  | false =>
    have hc : apCode n L M nv Y = 4 := by unfold apCode; simp [hm]
    have hl : apLen n L M nv Y = 0 := by unfold apLen; simp [hc]
    rw [hc, hl]
    clear hc hl
    go_enter Try.func29, Try.ntmps29
    go_wp2_with fail
    refine (May_any _ _ _ _ _ _ _ _ (hM.new hN0)).mono ?_
    rw [hm]
    rintro e w1 ⟨rfl, rfl⟩
    go_wp2
    go_ret2
    exact ⟨_, rfl, ⟨none, 0, rfl, nil_rdI _ _⟩, (New.refl w).alloc _⟩
  | true =>
    cases ha : allE nv Y with
    | false =>
      have hc : apCode n L M nv Y = 4 := by unfold apCode; simp [ha]
      have hl : apLen n L M nv Y = 0 := by unfold apLen; simp [hc]
      rw [hc, hl]
      clear hc hl
      go_enter Try.func29, Try.ntmps29
      go_wp2_with fail
      refine (May_any _ _ _ _ _ _ _ _ (hM.new hN0)).mono ?_
      rw [hm]
      rintro e w1 ⟨rfl, rfl⟩
      go_wp2_with fail
      refine (all_any _ _ _ _ _ (hV.new hN0)).mono ?_
      rw [ha]
      rintro e w1 ⟨rfl, rfl⟩
      go_wp2
      go_ret2
      exact ⟨_, rfl, ⟨none, 0, rfl, nil_rdI _ _⟩, (New.refl w).alloc _⟩
    | true =>
      obtain ⟨hn1, hn8, hrow⟩ := mayM_out hm
      have hall := allE_out ha
      obtain ⟨b, off, rfl, hb, hcs⟩ := hM.2.1 (by omega)
      have z0 := hcs 0 (by omega)
      simp at z0
      have hcs0 := Lib.hid hcs
      clear hcs
      have hbne : b < w.heap.size := hb
      have hrow0 := Lib.hid hrow
      have hall0 := Lib.hid hall
      clear hrow hall
      have hL8 : L 0 ≤ 8 := (hrow0.out 0 (by omega)).2.2.1
      have hm0 := Lib.hid hm
      have ha0 := Lib.hid ha
      have hV0 := Lib.hid hV
      have hM0 := Lib.hid hM
      by_cases hsz : L 0 = nv
      · have hc : apCode n L M nv Y = 0 := by unfold apCode; simp [hm, ha, hsz]
        have hl : apLen n L M nv Y = n := by unfold apLen; simp [hc]
        rw [hc, hl]
        clear hc hl hm ha hV hM
        obtain ⟨i0, hi0, hz0, hz1, hz2⟩ := info_parts infoInt
        have hnv8 : nv ≤ 8 := by omega
        have hsz1 := Lib.hid hsz
        rw [hsz] at z0
        clear hsz
        go_enter Try.func29, Try.ntmps29
        go_wp2_with fail
        refine (May_any _ _ _ _ _ _ _ _ (hM0.out.new hN0)).mono ?_
        rw [hm0.out]
        rintro e w1 ⟨rfl, rfl⟩
        go_wp2_with fail
        refine (all_any _ _ _ _ _ (hV0.out.new hN0)).mono ?_
        rw [ha0.out]
        rintro e w1 ⟨rfl, rfl⟩
        go_wp2
        go_quiet (fail)
        go_wp2
        have hbox0 : Blk (w.alloc (.cells #[.slice V nv cv] 30)) w.heap.size 30 #[.slice V nv cv] := Blk.fresh _ _ _
        go_loopw [26, 6] (fun c s wr => ∃ (k : Nat) (sv : Value), sv = s ∧ c = .int .i64 k ∧ k ≤ n ∧ wr.ownsRow (w.heap.size + 1) 3 1 sv k (rowL (apVal M nv Y) k) ∧ New w wr ∧ Blk wr w.heap.size 30 #[.slice V nv cv]) (fun c _ _ => n - (intOf c).toNat)
        case atStart => exact ⟨0, _, rfl, rfl, by omega, World.ownsRow_nil _ _ _ _, hN0.drewN _, hbox0⟩
        case round =>
          obtain ⟨k, sv, rfl, rfl, hk, hown, hnw, hbox⟩ := hrel
          by_cases hlt : k < n
          · have ck := (hnw.cell hb).trans (hcs0.out k hlt)
            have hLk : Hid (L k = nv) := (hrow0.out k hlt).1.trans hsz1.out
            rw [hLk.out] at ck
            have hX : Hid (RdI .i64 w (R k) nv (M k)) := by have := (hM0.out.2.2 k hlt).1; rw [hLk.out] at this; exact this
            have hel : Hid (∀ j, j < nv → elP (M k j)) := by have := allE_out (hrow0.out k hlt).2.2.2; rw [hLk.out] at this; exact this
            have cb := hbox.cell 0
            simp at cb
            have hbl := hbox.lt
            have hbr : b < wr.heap.size := Nat.lt_of_lt_of_le hb hnw.size
            have hnext : Hid (rowL (apVal M nv Y) (k + 1) = rowL (apVal M nv Y) k ++ [.int .i64 (dotN (elN M k) (numN Y) nv : Nat)]) := rowL_succ _ _
            go_wp2_with fail
            refine (dot_any nv hnv8 49 enterApply1 _ (elN M k) (numN Y) (fun j hj => ?hf) (fun j hj => ?hg) _ (fun j w1 hj hn1 => ?hF)).mono ?_
            case hf => have := hel.out j hj; unfold elP at this; unfold elN; omega
            case hg => have := hall0.out j hj; unfold elP at this; unfold numN; omega
            case hF =>
              have q1 := hel.out j hj
              have q2 := hall0.out j hj
              have hn2 := hnw.next hn1.of_alloc
              have := apply1_any j nv (C k) nv cv (R k) V (M k) Y wr.heap.size w.heap.size w1 (by rw [((Blk.fresh wr _ _).new hn1).cell 0]; rfl) (by rw [((hbox.alloc _).new hn1).cell 0]; rfl) (hX.out.new hn2) (hV0.out.new hn2) hj hj
              rw [show (elN M k j : Int) = M k j by unfold elP at q1; unfold elN; omega, show (numN Y j : Int) = Y j by unfold elP at q2; unfold numN; omega]
              exact this
            rintro e w2 ⟨rfl, hn2⟩
            have hN2 := hnw.next hn2.of_alloc
            have hown2 : w2.ownsRow (w.heap.size + 1) 3 1 sv k (rowL (apVal M nv Y) k) := own_new (hown.alloc _) hn2
            have hbox2 : Blk w2 w.heap.size 30 #[.slice V nv cv] := (hbox.alloc _).new hn2
            have hlt2 : w.heap.size < w2.heap.size := hbox2.lt
            go_wp2_with (at_builtin; refine wpList_append_own _ rfl _ _ 30 rfl (w.heap.size + 1) 3 i0 _ 1 8 Try.underlying30 hi0 hz0 hz1 hz2 rfl (by decide) sv k (rowL (apVal M nv Y) k) rfl (hown2.alloc _) ⟨w2.heap.size, 0, none⟩ 1 1 [.int .i64 (dotN (elN M k) (numN Y) nv : Nat)] rfl rfl (World.news_of_block (cs := #[.int .i64 _]) (t := 3) (fr := (0, 0)) (heap_alloc_new w2 _)) (by simp [Value.oneCell']) (by unfold maxLen; omega) (by omega) (by simp; omega) ?_; intro v3 w3 hown3 hgrow hnil)
            have hbox3 : Blk w3 w.heap.size 30 #[.slice V nv cv] := (hbox2.alloc _).grown hgrow fun he => by have := (hown2.lt _ he).1; omega
            have hN3 : New w w3 := hN2.append' hgrow fun g hg => by have := (hown2.lt _ hg).1; omega
            rw [← hnext.out] at hown3
            have hown4 := Lib.hid hown3
            clear hown3
            go_wp2
            go_roundw
            case rel => exact ⟨k + 1, _, rfl, by go_num, by omega, hown4.out, hN3, hbox3⟩
            case measure => simp [intOf]; omega
          · have hin : k = n := by omega
            subst hin
            obtain ⟨B, d, rfl, hd, hR⟩ := own_rdI hown
            go_wp2
            go_ret2
            exact ⟨_, rfl, ⟨B, d, rfl, hR⟩, hnw⟩
      · have hc : apCode n L M nv Y = 1 := by unfold apCode; simp [hm, ha, hsz]
        have hl : apLen n L M nv Y = 0 := by unfold apLen; simp [hc]
        rw [hc, hl]
        clear hc hl hm ha hV hM
        have hnv := hV0.out.1
        unfold maxLen at hnv
        have hne : ((L 0 : Int) != (nv : Int)) = true := by simp; omega
        go_enter Try.func29, Try.ntmps29
        go_wp2_with fail
        refine (May_any _ _ _ _ _ _ _ _ (hM0.out.new hN0)).mono ?_
        rw [hm0.out]
        rintro e w1 ⟨rfl, rfl⟩
        go_wp2_with fail
        refine (all_any _ _ _ _ _ (hV0.out.new hN0)).mono ?_
        rw [ha0.out]
        rintro e w1 ⟨rfl, rfl⟩
        go_wp2
        go_quiet (fail)
        go_wp2
        go_ret2
        exact ⟨_, rfl, ⟨none, 0, rfl, nil_rdI _ _⟩, hN0.drewN _⟩
end Go.Proofs.Ytidhghcgbomdiaa.mat
