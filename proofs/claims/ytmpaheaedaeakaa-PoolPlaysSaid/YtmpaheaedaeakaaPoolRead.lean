/-
  Contracts: read, fetch.
-/
import Derived.Test.YtmpaheaedaeakaaPoolBody
namespace Go.Proofs.Ytmpaheaedaeakaa.pool
open Go.ChangeShapes Go.WideShapes Go.ChangeAt Go.RowKit Go.Proofs.Ytmpaheaedaeakaa.kit Go.Deep Go.Maps
set_option linter.unusedVariables false
set_option maxRecDepth 100000
theorem Read_any (v : Value) (b : By) (off count : Nat) (w : World) (h : Bs w v b) (hb : b.n ≤ 1024) (ho : off ≤ 9223372036854775807) (hc : count ≤ 9223372036854775807) :
    Calls Try.prog 77 #[v, .int .i64 (off : Nat), .int .i64 (count : Nat)] w fun e w' => ∃ u, e = .returned (.tuple #[u, .int .i64 0]) ∧ Bs w' u (readB b off count) ∧ New w w' := by
  obtain ⟨A, c, rfl, hnc, hcm, hA, hrd⟩ := h.read
  unfold maxLen at hcm
  by_cases hle : b.n ≤ off
  · have hle' : (b.n : Int) ≤ (off : Int) := by omega
    have hr : Hid (Bs w (.slice none 0 0) (readB b off count)) := (Bs.nil w).congr (by simp [readB, hle, By.none]) fun i hi => absurd hi (Nat.not_lt_zero i)
    clear h hrd
    go_enter Try.func77, Try.ntmps77
    go_wp2
    exact bodyPost_ret (v := .tuple #[.slice none 0 0, .int .i64 0]) (by simp [results, Try.results77, go_sem]) rfl ⟨_, rfl, hr.out, New.refl w⟩
  · have hlt : off < b.n := by omega
    obtain ⟨g, o, rfl, hg, hcell⟩ := hrd.2 (by omega)
    obtain ⟨m, hm⟩ : ∃ m, m = min count (b.n - off) := ⟨_, rfl⟩
    have hmn : m ≤ b.n - off := by omega
    have hcl := Lib.hid (Clone_bytes (some ⟨g, o + off, none⟩) m (c - off) (fun j => b.f (off + j)) w ⟨by unfold maxLen; omega, fun h0 => ⟨g, o + off, rfl, hg, fun i hi => by rw [Nat.add_assoc]; exact hcell (off + i) (by omega)⟩⟩ (fun e => by cases e) (by omega))
    have hrb : Hid (readB b off count = ⟨m, fun j => b.f (off + j)⟩) := by
      show _ = _
      unfold readB
      rw [if_neg hle, hm]
    obtain ⟨n, hn⟩ : ∃ n, Hid (n = b.n) := ⟨_, rfl⟩
    rw [← hn.out] at hnc hlt hmn hm hb hle ⊢
    have a1 : ¬ (n : Int) ≤ (off : Int) := by omega
    have a2 : (off : Int) ≤ (n : Int) := by omega
    clear hA hcell h hrd
    go_enter Try.func77, Try.ntmps77
    have hmi : (min (count : Int) ((n : Int) - (off : Int))).toNat = m := by omega
    rw [← hmi] at hcl
    have hmiH := Lib.hid hmi
    clear hmi hm hmn
    go_wp2_with (go_at_call 81; refine hcl.out.mono ?_; rintro e w2 ⟨u, rfl, hu, hn2⟩)
    exact bodyPost_ret (v := .tuple #[u, .int .i64 0]) (by simp [results, Try.results77, go_sem]) rfl ⟨_, rfl, by rw [hrb.out, ← hmiH.out]; exact hu, hn2⟩
/-- a command -/
def cmL (k : Int) (n o : Nm) (off count drive keep : Int) (R : Option Addr) (dl dc : Nat) : Array Value := #[.int .i64 k, encStr n, encStr o, .int .i64 off, .int .i64 count, .int .i64 drive, .int .i64 keep, .slice R dl dc]
/-- five cells are written -/
abbrev put5 (W : World) (p : Nat) (a0 a1 a2 a3 a4 : Value) : World := ((((W.setCell ⟨p, 0, none⟩ a0).setCell ⟨p, 1, none⟩ a1).setCell ⟨p, 2, none⟩ a2).setCell ⟨p, 3, none⟩ a3).setCell ⟨p, 4, none⟩ a4
theorem told_cells {W : World} {p : Nat} {x0 x1 x2 x3 x4 : Value} (h : Blk W p 37 #[x0, x1, x2, x3, x4]) : (W.cell? ⟨p, 0, none⟩ = some x0 ∧ W.cell? ⟨p, 1, none⟩ = some x1 ∧ W.cell? ⟨p, 2, none⟩ = some x2 ∧ W.cell? ⟨p, 3, none⟩ = some x3 ∧ W.cell? ⟨p, 4, none⟩ = some x4) ∧ (W.frozen? ⟨p, 0, none⟩ = false ∧ W.frozen? ⟨p, 1, none⟩ = false ∧ W.frozen? ⟨p, 2, none⟩ = false ∧ W.frozen? ⟨p, 3, none⟩ = false ∧ W.frozen? ⟨p, 4, none⟩ = false) ∧
    Hid (∀ a0 a1 a2 a3 a4, (put5 W p a0 a1 a2 a3 a4).cell? ⟨p, 0, none⟩ = some a0 ∧ (put5 W p a0 a1 a2 a3 a4).cell? ⟨p, 1, none⟩ = some a1 ∧ (put5 W p a0 a1 a2 a3 a4).cell? ⟨p, 2, none⟩ = some a2 ∧ (put5 W p a0 a1 a2 a3 a4).cell? ⟨p, 3, none⟩ = some a3 ∧ (put5 W p a0 a1 a2 a3 a4).cell? ⟨p, 4, none⟩ = some a4) := by
  have r0 := h.cell 0
  have r1 := h.cell 1
  have r2 := h.cell 2
  have r3 := h.cell 3
  have r4 := h.cell 4
  simp at r0 r1 r2 r3 r4
  refine ⟨⟨r0, r1, r2, r3, r4⟩, ⟨h.frozen 0, h.frozen 1, h.frozen 2, h.frozen 3, h.frozen 4⟩, fun a0 a1 a2 a3 a4 => ?_⟩
  have hb := ((((h.put 0 a0).put 1 a1).put 2 a2).put 3 a3).put 4 a4
  have x0 := hb.cell 0
  have x1 := hb.cell 1
  have x2 := hb.cell 2
  have x3 := hb.cell 3
  have x4 := hb.cell 4
  simp at x0 x1 x2 x3 x4
  exact ⟨x0, x1, x2, x3, x4⟩
theorem put5_alt (W : World) (p : Nat) (a0 a1 a2 a3 a4 : Value) : Alt (fun k => k = p) W (put5 W p a0 a1 a2 a3 a4) :=
  Alt.set (K := fun k => k = p) (Alt.set (K := fun k => k = p) (Alt.set (K := fun k => k = p) (Alt.set (K := fun k => k = p) (Alt.set (K := fun k => k = p) (Alt.refl W) (.inl rfl) a0) (.inl rfl) a1) (.inl rfl) a2) (.inl rfl) a3) (.inl rfl) a4
/-- what a function makes that takes a command and answers -/
theorem cmd_mem {w : World} {cs : Array Value} : ∃ W1, W1 = (w.alloc (.cells cs 34)).alloc (.cells #[.int .i64 0, .bool false, .int .i64 0, .slice none 0 0, .slice none 0 0] 37) ∧ New w W1 ∧ Hid (Blk W1 (w.heap.size + 1) 37 #[.int .i64 0, .bool false, .int .i64 0, .slice none 0 0, .slice none 0 0]) ∧ Hid (Blk W1 w.heap.size 34 cs) ∧ Hid (W1.heap.size = w.heap.size + 2) := by
  have hb : Blk ((w.alloc (.cells cs 34)).alloc (.cells #[.int .i64 0, .bool false, .int .i64 0, .slice none 0 0, .slice none 0 0] 37)) w.heap.size 34 cs := (Blk.fresh w _ _).alloc _
  have hg := Blk.fresh (w.alloc (.cells cs 34)) 37 #[.int .i64 0, .bool false, .int .i64 0, .slice none 0 0, .slice none 0 0]
  exact ⟨_, rfl, ((New.refl w).alloc _).alloc _, Lib.hid (by simpa using hg), hb, Lib.hid (by simp)⟩
theorem cmd_cells {W : World} {p : Nat} {k : Int} {n o : Nm} {off count drive keep : Int} {R : Option Addr} {dl dc : Nat} (h : Blk W p 34 (cmL k n o off count drive keep R dl dc)) :
    W.cell? ⟨p, 0, none⟩ = some (.int .i64 k) ∧ W.cell? ⟨p, 1, none⟩ = some (encStr n) ∧ W.cell? ⟨p, 2, none⟩ = some (encStr o) ∧ W.cell? ⟨p, 3, none⟩ = some (.int .i64 off) ∧ W.cell? ⟨p, 4, none⟩ = some (.int .i64 count) ∧ W.cell? ⟨p, 5, none⟩ = some (.int .i64 drive) ∧ W.cell? ⟨p, 6, none⟩ = some (.int .i64 keep) ∧ W.cell? ⟨p, 7, none⟩ = some (.slice R dl dc) := by
  refine ⟨?_, ?_, ?_, ?_, ?_, ?_, ?_, ?_⟩ <;> (rw [h.cell]; rfl)
theorem told_val {W : World} {p : Nat} {a0 a1 a2 a3 a4 : Value} {t : Td} (hp : Blk W p 37 #[.int .i64 0, .bool false, .int .i64 0, .slice none 0 0, .slice none 0 0]) (h : TdV W (.agg #[a0, a1, a2, a3, a4]) t) : TdV (put5 W p a0 a1 a2 a3 a4) (.agg #[a0, a1, a2, a3, a4]) t :=
  h.alt (put5_alt W p a0 a1 a2 a3 a4) (fun g cs hb e => by subst e; exact blk_ne' hb hp (by decide) rfl) fun g cs hb e => by subst e; exact blk_ne' hb hp (by decide) rfl
theorem TdV.form {w : World} {v : Value} {t : Td} (h : TdV w v t) : ∃ dv nv, v = .agg #[.int .i64 t.code, .bool false, .int .i64 (t.size : Nat), dv, nv] := by
  obtain ⟨dv, nv, h, _⟩ := h
  exact ⟨dv, nv, h⟩
theorem fetch_any (v : Value) (b : By) (k : Int) (nm o : Nm) (off count drive keep : Int) (R : Option Addr) (dl dc : Nat) (w : World) (h : Bs w v b) (hb : b.n ≤ 1024) (ho : off ≤ 9223372036854775807) (hc : count ≤ 9223372036854775807) :
    Calls Try.prog 31 #[v, .agg (cmL k nm o off count drive keep R dl dc)] w fun e w' => ∃ u, e = .returned u ∧ TdV w' u (fetchT b off count) ∧ New w w' := by
  obtain ⟨W1, hW1, hN1, hr, hcm, hz⟩ := cmd_mem (w := w) (cs := cmL k nm o off count drive keep R dl dc)
  obtain ⟨_, _, _, c3, c4, _, _, _⟩ := cmd_cells hcm.out
  have hNH := Lib.hid hN1
  have hbH := Lib.hid (h.new hN1)
  clear hN1 h
  go_enter Try.func31, Try.ntmps31
  go_upto_region 1 with fail
  rw [← hW1]
  clear hW1
  by_cases hneg : off < 0 ∨ count < 0
  · have hft : Hid (fetchT b off count = Td.no 2) := by show _ = _; unfold fetchT; rw [if_pos hneg]
    rcases hneg with h1 | h1
    · skip
      go_wp2_with (go_at_call 12; refine (no_any 2 _).mono ?_; rintro e w2 ⟨rfl, hn2⟩; have hn2H := Lib.hid hn2; obtain ⟨⟨r0, r1, r2, r3, r4⟩, ⟨y0, y1, y2, y3, y4⟩, hx⟩ := told_cells (hr.out.new hn2); have hr2 := Lib.hid (hr.out.new hn2))
      exact bodyPost_ret (v := .agg #[.int .i64 2, .bool false, .int .i64 0, .slice none 0 0, .slice none 0 0]) (by simp [results, Try.results31, go_sem, hx.out]) rfl ⟨_, rfl, by rw [hft.out]; exact told_val hr2.out (TdV.no _ _), ((hNH.out.next hn2H.out).trans ((put5_alt _ _ _ _ _ _ _).below (by have := (hNH.out.next hn2H.out).size; omega) fun k hk => by omega))⟩
    · by_cases h0 : off < 0
      · skip
        go_wp2_with (go_at_call 12; refine (no_any 2 _).mono ?_; rintro e w2 ⟨rfl, hn2⟩; have hn2H := Lib.hid hn2; obtain ⟨⟨r0, r1, r2, r3, r4⟩, ⟨y0, y1, y2, y3, y4⟩, hx⟩ := told_cells (hr.out.new hn2); have hr2 := Lib.hid (hr.out.new hn2))
        exact bodyPost_ret (v := .agg #[.int .i64 2, .bool false, .int .i64 0, .slice none 0 0, .slice none 0 0]) (by simp [results, Try.results31, go_sem, hx.out]) rfl ⟨_, rfl, by rw [hft.out]; exact told_val hr2.out (TdV.no _ _), ((hNH.out.next hn2H.out).trans ((put5_alt _ _ _ _ _ _ _).below (by have := (hNH.out.next hn2H.out).size; omega) fun k hk => by omega))⟩
      · skip
        go_wp2_with (go_at_call 12; refine (no_any 2 _).mono ?_; rintro e w2 ⟨rfl, hn2⟩; have hn2H := Lib.hid hn2; obtain ⟨⟨r0, r1, r2, r3, r4⟩, ⟨y0, y1, y2, y3, y4⟩, hx⟩ := told_cells (hr.out.new hn2); have hr2 := Lib.hid (hr.out.new hn2))
        exact bodyPost_ret (v := .agg #[.int .i64 2, .bool false, .int .i64 0, .slice none 0 0, .slice none 0 0]) (by simp [results, Try.results31, go_sem, hx.out]) rfl ⟨_, rfl, by rw [hft.out]; exact told_val hr2.out (TdV.no _ _), ((hNH.out.next hn2H.out).trans ((put5_alt _ _ _ _ _ _ _).below (by have := (hNH.out.next hn2H.out).size; omega) fun k hk => by omega))⟩
  · obtain ⟨off, rfl⟩ : ∃ k : Nat, off = k := ⟨off.toNat, by omega⟩
    obtain ⟨count, rfl⟩ : ∃ k : Nat, count = k := ⟨count.toNat, by omega⟩
    have hft : Hid (fetchT b (off : Int) (count : Int) = ⟨0, b.n, readB b off count, []⟩) := by show _ = _; unfold fetchT; rw [if_neg hneg]; rfl
    have a1 : ¬ (off : Int) < 0 := by omega
    have a2 : ¬ (count : Int) < 0 := by omega
    have hread := Lib.hid (Read_any v b off count W1 hbH.out hb (by omega) (by omega))
    have hsz := Lib.hid (fun w' (hn : New W1 w') => Size_any v b w' (hbH.out.new hn))
    clear hneg
    go_wp2_with fail
    refine hread.out.mono ?_
    rintro e w2 ⟨u, rfl, hu, hn2⟩
    have huH := Lib.hid hu
    have hn2H := Lib.hid hn2
    obtain ⟨⟨r0, r1, r2, r3, r4⟩, ⟨y0, y1, y2, y3, y4⟩, hx⟩ := told_cells (hr.out.new hn2)
    have hr2 := Lib.hid (hr.out.new hn2)
    obtain ⟨nb, hnb⟩ : ∃ nb, Hid (nb = b.n) := ⟨_, rfl⟩
    rw [← hnb.out] at hsz hft
    have hu2 : ∃ A n c, u = .slice A n c := by
      obtain ⟨A, c, h, _⟩ := hu
      exact ⟨A, _, c, h⟩
    obtain ⟨A, n, c, rfl⟩ := hu2
    have hsz2 := Lib.hid (hsz.out w2 hn2)
    clear hu hn2 hread hsz
    show _
    dsimp only
    go_wp2_with (go_at_call 79; refine hsz2.out.mono ?_; rintro e w3 ⟨rfl, rfl⟩)
    exact bodyPost_ret (v := .agg #[.int .i64 0, .bool false, .int .i64 nb, .slice A n c, .slice none 0 0]) (by simp [results, Try.results31, go_sem, hx.out]) rfl ⟨_, rfl, by rw [hft.out]; exact told_val hr2.out ⟨_, _, rfl, huH.out, Ns.nil _⟩, ((hNH.out.next hn2H.out).trans ((put5_alt _ _ _ _ _ _ _).below (by have := (hNH.out.next hn2H.out).size; omega) fun k hk => by omega))⟩
end Go.Proofs.Ytmpaheaedaeakaa.pool
