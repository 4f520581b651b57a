/-
  The reference's someBytes.
-/
import Derived.Test.YtmpaheaedaeakaaPoolRefBytes
namespace Go.Proofs.Ytmpaheaedaeakaa.pool
open Go.ChangeShapes Go.WideShapes Go.ChangeAt Go.RowKit Go.Proofs.Ytmpaheaedaeakaa.kit Go.Deep Go.Maps
set_option linter.unusedVariables false
set_option maxRecDepth 100000
/-- an answer and a result, made -/
theorem some_mem (w : World) (cs : Array Value) : ∃ W2, W2 = (w.alloc (.cells #[.int .i64 0, .bool false, .int .i64 0, .slice none 0 0, .slice none 0 0] 37)).alloc (.cells cs 37) ∧ New w W2 ∧
    Hid (Blk W2 w.heap.size 37 #[.int .i64 0, .bool false, .int .i64 0, .slice none 0 0, .slice none 0 0]) ∧ Hid (Blk W2 (w.heap.size + 1) 37 cs) ∧ Hid (W2.heap.size = w.heap.size + 2) := by
  have hb : Blk ((w.alloc (.cells #[.int .i64 0, .bool false, .int .i64 0, .slice none 0 0, .slice none 0 0] 37)).alloc (.cells cs 37)) w.heap.size 37 #[.int .i64 0, .bool false, .int .i64 0, .slice none 0 0, .slice none 0 0] := (Blk.fresh w _ _).alloc _
  have hg := Blk.fresh (w.alloc (.cells #[.int .i64 0, .bool false, .int .i64 0, .slice none 0 0, .slice none 0 0] 37)) 37 cs
  exact ⟨_, rfl, ((New.refl w).alloc _).alloc _, hb, Lib.hid (by simpa using hg), Lib.hid (by simp)⟩
/-- how many bytes are taken up to a place -/
def kS (off count i : Nat) : Nat := min count (i - off)
theorem someBytes_neg (A : Option Addr) (n c : Nat) (b : By) (off count : Int) (w : World) (hneg : off < 0 ∨ count < 0) :
    Calls Try.prog 22 #[.slice A n c, .int .i64 off, .int .i64 count] w fun e w' => ∃ u, e = .returned u ∧ TdV w' u (fetchT b off count) ∧ New w w' := by
  have hft : Hid (fetchT b off count = Td.no 2) := by show _ = _; unfold fetchT; rw [if_pos hneg]
  obtain ⟨W1, hW1⟩ : ∃ W1, W1 = w.alloc (.cells #[.int .i64 0, .bool false, .int .i64 0, .slice none 0 0, .slice none 0 0] 37) := ⟨_, rfl⟩
  have hN1 : Hid (New w W1) := by show New _ _; rw [hW1]; exact (New.refl w).alloc _
  have hr : Hid (Blk W1 w.heap.size 37 #[.int .i64 0, .bool false, .int .i64 0, .slice none 0 0, .slice none 0 0]) := by show Blk _ _ _ _; rw [hW1]; exact Blk.fresh _ _ _
  obtain ⟨⟨r0, r1, r2, r3, r4⟩, ⟨y0, y1, y2, y3, y4⟩, hx⟩ := told_cells hr.out
  by_cases h0 : off < 0
  · clear hneg
    go_enter Try.func22, Try.ntmps22
    go_upto_region 1 with fail
    rw [← hW1]
    clear hW1
    go_wp2
    exact bodyPost_ret (v := .agg #[.int .i64 2, .bool false, .int .i64 0, .slice none 0 0, .slice none 0 0]) (by simp [results, Try.results22, go_sem, hx.out]) rfl ⟨_, rfl, by rw [hft.out]; exact told_val hr.out (TdV.no _ _), hN1.out.trans ((put5_alt _ _ _ _ _ _ _).below (hN1.out.size) fun k hk => by omega)⟩
  · have h1 : count < 0 := by omega
    clear hneg
    go_enter Try.func22, Try.ntmps22
    go_upto_region 1 with fail
    rw [← hW1]
    clear hW1
    go_wp2
    exact bodyPost_ret (v := .agg #[.int .i64 2, .bool false, .int .i64 0, .slice none 0 0, .slice none 0 0]) (by simp [results, Try.results22, go_sem, hx.out]) rfl ⟨_, rfl, by rw [hft.out]; exact told_val hr.out (TdV.no _ _), hN1.out.trans ((put5_alt _ _ _ _ _ _ _).below (hN1.out.size) fun k hk => by omega)⟩
set_option maxHeartbeats 1000000 in
theorem someBytes_any (v : Value) (b : By) (off count : Int) (w : World) (h : Bs w v b) (hb : b.n ≤ 1024) (ho : off ≤ 9223372036854775807) (hc : count ≤ 9223372036854775807) :
    Calls Try.prog 22 #[v, .int .i64 off, .int .i64 count] w fun e w' => ∃ u, e = .returned u ∧ TdV w' u (fetchT b off count) ∧ New w w' := by
  obtain ⟨A, c, rfl, hnc, hcm, hA, hrd⟩ := h.read
  by_cases hneg : off < 0 ∨ count < 0
  · exact someBytes_neg A b.n c b off count w hneg
  obtain ⟨i0, hi0, hz0, hz1, hz2⟩ := info_parts infoU8
  obtain ⟨off, rfl⟩ : ∃ k : Nat, off = k := ⟨off.toNat, by omega⟩
  obtain ⟨count, rfl⟩ : ∃ k : Nat, count = k := ⟨count.toNat, by omega⟩
  have hft : Hid (∀ w' dv (k : Nat), k = (if b.n ≤ off then 0 else min count (b.n - off)) → w'.ownsRow (w.heap.size + 2) 5 1 dv k (numL .u8 (fun j => b.f (off + j)) k) → TdV w' (.agg #[.int .i64 0, .bool false, .int .i64 b.n, dv, .slice none 0 0]) (fetchT b (off : Int) (count : Int))) := fun w' dv k hk hO => by
    unfold fetchT
    rw [if_neg hneg]
    refine ⟨_, _, rfl, ?_, Ns.nil _⟩
    exact (Bs.own hO).congr (by rw [hk]; rfl) fun i hi => rfl
  have a1 : ¬ (off : Int) < 0 := by omega
  have a2 : ¬ (count : Int) < 0 := by omega
  obtain ⟨n, hn⟩ : ∃ n, Hid (n = b.n) := ⟨_, rfl⟩
  have hcell : Hid (0 < n → ∃ g o, A = some ⟨g, o, none⟩ ∧ g < w.heap.size ∧ ∀ i, i < n → w.cell? ⟨g, o + i, none⟩ = some (.int .u8 (b.f i : Nat))) := by rw [hn.out]; exact hrd.2
  rw [← hn.out] at hnc hb hft ⊢
  clear hrd hA h hneg
  obtain ⟨W2, hW2, hN2, hr, ht, hz⟩ := some_mem w #[.int .i64 0, .bool false, .int .i64 (n : Nat), .slice none 0 0, .slice none 0 0]
  have hN2 := Lib.hid hN2
  go_enter Try.func22, Try.ntmps22
  go_upto_region 4 with fail
  rw [← hW2]
  clear hW2
  go_wp2_with fail
  go_loopw [21] (fun q wr => ∃ (i : Nat) (dv : Value), q = .int .i64 (i : Nat) ∧ i ≤ n ∧ Hid (Blk wr w.heap.size 37 #[.int .i64 0, .bool false, .int .i64 0, .slice none 0 0, .slice none 0 0]) ∧ Hid (Blk wr (w.heap.size + 1) 37 #[.int .i64 0, .bool false, .int .i64 n, dv, .slice none 0 0]) ∧ Hid (wr.ownsRow (w.heap.size + 2) 5 1 dv (kS off count i) (numL .u8 (fun j => b.f (off + j)) (kS off count i))) ∧ Hid (New w wr)) (fun q _ => n - (intOf q).toNat)
  case atStart => exact ⟨0, _, rfl, Nat.zero_le _, hr, ht, Lib.hid (by rw [show kS off count 0 = 0 by simp [kS]]; exact World.ownsRow_nil _ _ _ _), hN2⟩
  case round =>
    obtain ⟨i, dv, rfl, hi, hrb, htb, hO, hN⟩ := hrel
    by_cases hit : i < n
    · have hil : (i : Int) < (n : Int) := by omega
      obtain ⟨k, hk⟩ : ∃ k, Hid (k = kS off count i) := ⟨_, rfl⟩
      have hkd := hk.out
      unfold kS at hkd
      by_cases hgo : off ≤ i ∧ i - off < count
      · obtain ⟨g2, o2, rfl, hg2, hc2⟩ := hcell.out (by omega)
        obtain ⟨x, hx⟩ : ∃ x, Hid (x = b.f i) := ⟨_, rfl⟩
        have e0 : wr.cell? ⟨g2, o2 + i, none⟩ = some (.int .u8 (x : Nat)) := by
          rw [hx.out]
          exact (hN.out.cell (p := ⟨g2, o2 + i, none⟩) hg2).trans (hc2 i hit)
        have hk1 : Hid (kS off count (i + 1) = k + 1) := by show _ = _; unfold kS; omega
        have hkb : Hid (numL .u8 (fun j => b.f (off + j)) (k + 1) = numL .u8 (fun j => b.f (off + j)) k ++ [.int .u8 (x : Nat)]) := by
          show _ = _
          rw [numL_more, hx.out, show off + k = i by omega]
        have hkn : k < 1024 := by omega
        have b1 : (off : Int) ≤ (i : Int) := by omega
        have b2 : (i : Int) - (off : Int) < (count : Int) := by omega
        have hown := hO.out
        rw [← hk.out] at hown
        have t3 := htb.out.cell 3
        have ta := htb.out.alloc (.cells #[.int .u8 (x : Nat)] 5)
        have t3a := ta.cell 3
        have tf := htb.out.frozen 3
        have tfa := ta.frozen 3
        simp at t3 t3a
        have hz1' := hN.out.size
        have hnb : wr.heap.size > w.heap.size + 1 := htb.out.lt
        clear hc2 hkd ta
        go_wp2
        go_region_law
          (first
            | (refine step_append_lies _ (by rfl) _ _ 31 (by rfl) (w.heap.size + 2) 5 i0 _ 1 1 Try.underlying31 hi0 hz0 hz1 hz2 rfl (by decide) dv k (numL .u8 (fun j => b.f (off + j)) k) (by rfl) (hown.alloc _) ⟨wr.heap.size, 0, none⟩ 1 1 [.int .u8 (x : Nat)] (by rfl) (by rfl) (World.news_of_block (cs := #[.int .u8 _]) (t := 5) (fr := (0, 0)) (heap_alloc_new wr _)) (by simp [Value.oneCell']) (by omega) (by unfold maxLen; omega) (by omega) (by simp; omega) (wr.heap.size + 1) (by simp) ?_; intro g7 c7 w7 hown7 hgr7 hat7 hlt7
               have hbq := (htb.out.alloc (.cells #[.int .u8 (x : Nat)] 5)).drew
               have hb7 := hbq.grown hgr7 (own_ne_blk (hown.alloc (.cells #[.int .u8 (x : Nat)] 5)).drew hbq (by decide))
               have f7 := hb7.cell 3
               have f8 := hb7.frozen 3
               simp at f7))
        all_goals
          obtain ⟨W8, hW8⟩ : ∃ W8, W8 = w7.setCell ⟨w.heap.size + 1, 3, none⟩ (.slice (some ⟨g7, 0, none⟩) (k + 1) c7) := ⟨_, rfl⟩
          have hg7 := (hown7.lt g7 rfl).1
          have htb8 : Hid (Blk W8 (w.heap.size + 1) 37 #[.int .i64 0, .bool false, .int .i64 n, .slice (some ⟨g7, 0, none⟩) (k + 1) c7, .slice none 0 0]) := by
            show Blk _ _ _ _
            rw [hW8]
            exact hb7.put 3 _
          have hrb8 : Hid (Blk W8 w.heap.size 37 #[.int .i64 0, .bool false, .int .i64 0, .slice none 0 0, .slice none 0 0]) := by
            show Blk _ _ _ _
            rw [hW8]
            have hq := (hrb.out.alloc (.cells #[.int .u8 (x : Nat)] 5)).drew
            exact (hq.grown hgr7 (own_ne_blk (hown.alloc (.cells #[.int .u8 (x : Nat)] 5)).drew hq (by decide))).far (by dsimp only; omega) _
          have hO8 : Hid (W8.ownsRow (w.heap.size + 2) 5 1 (.slice (some ⟨g7, 0, none⟩) (k + 1) c7) (k + 1) (numL .u8 (fun j => b.f (off + j)) (k + 1))) := by
            show World.ownsRow _ _ _ _ _ _ _
            rw [hW8, hkb.out]
            refine Alt.own (K := fun q => q = w.heap.size + 1) (Alt.set (K := fun q => q = w.heap.size + 1) (Alt.refl w7) (.inl rfl) _) hown7 fun g hg => ?_
            have := (hown7.lt g hg).1
            omega
          have hN8 : Hid (New w W8) := by
            show New _ _
            rw [hW8]
            exact (((hN.out.alloc _).drew).grown hgr7 fun r e => by have := (hown.lt r e).1; omega).set (by dsimp only; omega) _
          rw [← hW8]
          rw [← hk1.out] at hO8
          clear hW8 hown7 hgr7 hat7 hlt7 hbq hb7 f7 f8 hg7 hown t3 t3a tf tfa e0
          go_wp2
          go_roundw
          case rel => exact ⟨i + 1, _, by go_num, by omega, hrb8, htb8, by have h9 := hO8.out; rw [hk1.out] at h9; rw [hk1.out]; exact h9, hN8⟩
          case measure => simp [intOf]; omega
      · have hks : Hid (kS off count (i + 1) = kS off count i) := by show _ = _; unfold kS; omega
        by_cases h1 : off ≤ i
        · have b1 : (off : Int) ≤ (i : Int) := by omega
          have b2 : ¬ (i : Int) - (off : Int) < (count : Int) := by omega
          clear hgo hkd
          go_wp2
          go_roundw
          case rel => exact ⟨i + 1, _, by go_num, by omega, hrb, htb, by show World.ownsRow _ _ _ _ _ _ _; rw [hks.out]; exact hO.out, hN⟩
          case measure => simp [intOf]; omega
        · have b1 : ¬ (off : Int) ≤ (i : Int) := by omega
          clear hgo hkd
          go_wp2
          go_roundw
          case rel => exact ⟨i + 1, _, by go_num, by omega, hrb, htb, by show World.ownsRow _ _ _ _ _ _ _; rw [hks.out]; exact hO.out, hN⟩
          case measure => simp [intOf]; omega
    · have hin : i = n := by omega
      subst hin
      have hil : ¬ (i : Int) < (i : Int) := by omega
      obtain ⟨⟨q0, q1, q2, q3, q4⟩, _, _⟩ := told_cells htb.out
      obtain ⟨⟨r0, r1, r2, r3, r4⟩, ⟨y0, y1, y2, y3, y4⟩, hx⟩ := told_cells hrb.out
      have htd := Lib.hid (hft.out wr dv (kS off count i) (by unfold kS; split <;> omega) hO.out)
      obtain ⟨A1, c1, hdv, _⟩ := own_open hO.out
      obtain ⟨k, hk⟩ : ∃ k, Hid (k = kS off count i) := ⟨_, rfl⟩
      rw [← hk.out] at hdv
      subst hdv
      have hln := hN.out.size
      clear hit
      go_wp2
      exact bodyPost_ret (v := .agg #[.int .i64 0, .bool false, .int .i64 i, .slice A1 k c1, .slice none 0 0]) (by simp [results, Try.results22, go_sem, hx.out]) rfl ⟨_, rfl, told_val hrb.out htd.out, hN.out.trans ((put5_alt _ _ _ _ _ _ _).below hln fun k hk => by omega)⟩
end Go.Proofs.Ytmpaheaedaeakaa.pool
