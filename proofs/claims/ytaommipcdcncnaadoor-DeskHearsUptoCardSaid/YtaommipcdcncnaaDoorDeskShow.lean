/-
  Contract of the program's Show.
-/
import Derived.Test.YtaommipcdcncnaaDoorDeskCmd
namespace Go.Proofs.YtaommipcdcncnaaDoor.desk
open Go.ChangeShapes Go.WideShapes Go.ChangeAt Go.RowKit Go.Proofs.YtaommipcdcncnaaDoor.kit Go.Deep
set_option linter.unusedVariables false
set_option maxRecDepth 100000
theorem or64 {a b : Int} (ha0 : -9223372036854775808 ≤ a) (ha1 : a ≤ 9223372036854775807) (hb0 : -9223372036854775808 ≤ b) (hb1 : b ≤ 9223372036854775807) : bits .or .i64 a b = 0 ↔ a = 0 ∧ b = 0 := by
  have hof : ∀ x : Int, -9223372036854775808 ≤ x → x ≤ 9223372036854775807 → BitVec.ofInt 64 x = 0#64 → x = 0 := fun x h0 h1 h => by
    have h2 := congrArg BitVec.toInt h
    rw [BitVec.toInt_ofInt_eq_self (by decide) (by omega) (by omega)] at h2
    simpa using h2
  constructor
  · intro h
    have h1 : (BitVec.ofInt 64 a ||| BitVec.ofInt 64 b).toNat = 0 := by
      have hlt := (BitVec.ofInt 64 a ||| BitVec.ofInt 64 b).isLt
      have h2 : IntKind.i64.wrap ((BitVec.ofInt 64 a ||| BitVec.ofInt 64 b).toNat : Nat) = 0 := h
      generalize (BitVec.ofInt 64 a ||| BitVec.ofInt 64 b).toNat = r at h2 hlt
      unfold IntKind.wrap at h2
      simp [IntKind.bits, IntKind.signed] at h2
      split at h2 <;> omega
    have h3 : (BitVec.ofInt 64 a ||| BitVec.ofInt 64 b) = 0#64 := BitVec.eq_of_toNat_eq (by rw [h1]; rfl)
    obtain ⟨h4, h5⟩ := BitVec.or_eq_zero_iff.1 h3
    exact ⟨hof a ha0 ha1 h4, hof b hb0 hb1 h5⟩
  · rintro ⟨rfl, rfl⟩
    decide
theorem or_bd (a b : Int) : -9223372036854775808 ≤ bits .or .i64 a b ∧ bits .or .i64 a b ≤ 9223372036854775807 := bounds_i64 (wf_bits _ _ _ _)
def zeroC (c : Cu) : Bool := decide (c.nm = [] ∧ c.ot = [] ∧ c.off = 0 ∧ c.cnt = 0 ∧ c.drv = 0 ∧ c.kp = 0 ∧ c.dn = 0)
/-- what is shown -/
def showT (f : Nat → Nat) (k : Int) (C : Cu) : Tx × Int :=
  if k < 1 ∨ 19 < k then ([], 3) else match goS f (wordK (k.toNat - 1)).2 C with
    | none => ([], 4)
    | some q => if zeroC q.2 = true then ((wordK (k.toNat - 1)).1 ++ tailT q.1, 0) else ([], 4)
def ShP (f : Nat → Nat) (k : Int) (C : Cu) (w : World) (e : Ending) (w' : World) : Prop := e = .returned (.tuple #[encStr (showT f k C).1, .int .i64 (showT f k C).2]) ∧ New w w'
theorem ShP.of {f : Nat → Nat} {k : Int} {C : Cu} {w w' : World} {x : Tx} {cd : Int} (h : showT f k C = (x, cd)) (hn : New w w') : ShP f k C w (.returned (.tuple #[encStr x, .int .i64 cd])) w' := by
  unfold ShP
  rw [h]
  exact ⟨rfl, hn⟩
theorem show_kind {f : Nat → Nat} {k : Int} {C : Cu} (h : k < 1 ∨ 19 < k) : showT f k C = ([], 3) := if_pos h
theorem show_none {f : Nat → Nat} {i : Nat} {C : Cu} (hi : i < 19) (h : goS f (wordK i).2 C = none) : showT f ((i : Int) + 1) C = ([], 4) := by
  unfold showT
  rw [if_neg (by omega), show ((i : Int) + 1).toNat - 1 = i by omega, h]
theorem show_some {f : Nat → Nat} {i : Nat} {C : Cu} (hi : i < 19) {q : List Tx × Cu} (h : goS f (wordK i).2 C = some q) : showT f ((i : Int) + 1) C = if zeroC q.2 = true then ((wordK i).1 ++ tailT q.1, 0) else ([], 4) := by
  unfold showT
  rw [if_neg (by omega), show ((i : Int) + 1).toNat - 1 = i by omega, h]
theorem goS_bad {f : Nat → Nat} {s : UInt8} {r : Tx} {c : Cu} (h : badS s c = true) : goS f (s :: r) c = none := if_pos h
theorem goS_more {f : Nat → Nat} {s : UInt8} {r : Tx} {c : Cu} (h : badS s c = false) : goS f (s :: r) c = (goS f r (clr s c)).map fun q => (part f s c :: q.1, q.2) := if_neg (by rw [h]; decide)
/-- how far one has come -/
def Far (f : Nat → Nat) (sg : Tx) (C : Cu) (i : Nat) (ps : List Tx) (cur : Cu) : Prop := goS f sg C = (goS f (sg.drop i) cur).map fun q => (ps ++ q.1, q.2)
theorem Far.start (f : Nat → Nat) (sg : Tx) (C : Cu) : Far f sg C 0 [] C := by
  unfold Far
  rw [List.drop_zero]
  cases goS f sg C <;> rfl
theorem Far.fails {f : Nat → Nat} {sg : Tx} {C cur : Cu} {i : Nat} {ps : List Tx} {s : UInt8} (h : Far f sg C i ps cur) (hs : sg.drop i = s :: sg.drop (i + 1)) (hb : badS s cur = true) : goS f sg C = none := by
  unfold Far at h
  rw [h, hs, goS_bad hb]
  rfl
theorem Far.more {f : Nat → Nat} {sg : Tx} {C cur : Cu} {i : Nat} {ps : List Tx} {s : UInt8} (h : Far f sg C i ps cur) (hs : sg.drop i = s :: sg.drop (i + 1)) (hb : badS s cur = false) : Far f sg C (i + 1) (ps ++ [part f s cur]) (clr s cur) := by
  unfold Far at h ⊢
  rw [h, hs, goS_more hb]
  cases goS f (sg.drop (i + 1)) (clr s cur) with
  | none => rfl
  | some q => simp
theorem Far.done {f : Nat → Nat} {sg : Tx} {C cur : Cu} {ps : List Tx} (h : Far f sg C sg.length ps cur) : goS f sg C = some (ps, cur) := by
  unfold Far at h
  rw [h, List.drop_length]
  simp [goS]
theorem drop_at {sg : Tx} {i : Nat} (h : i < sg.length) : sg.drop i = sg[i] :: sg.drop (i + 1) := List.drop_eq_getElem_cons h
theorem words_new {w w' : World} (h : WordsIs w) (hn : New w w') : WordsIs w' := fun i hi => ⟨(hn.cell (lt_of_cell (h i hi).1)).trans (h i hi).1, (hn.cell (lt_of_cell (h i hi).2)).trans (h i hi).2⟩
theorem show_lo (k : Int) (C : Cu) (f : Nat → Nat) (w : World) (hC : CuOk w f C) (hW : WordsIs w) (hf : ∀ i, f i < 256) (hT : Lib.TabIs Tryd.prog w "internal/strconv.uint64pow10" .u64 Lib.pow10Tab) (hk : k < 1) :
    Calls Tryd.prog 9 #[.agg (cuA k C)] w (ShP f k C w) := by
  have hs := Lib.hid (show_kind (f := f) (C := C) (.inl hk))
  obtain ⟨W1, hW1⟩ : ∃ W1, W1 = w.alloc (.cells (cuA k C) 31) := ⟨_, rfl⟩
  have hN1 : Hid (New w W1) := by show New _ _; rw [hW1]; exact (New.refl w).alloc _
  have hb1 : Hid (Blk W1 w.heap.size 31 (cuA k C)) := by show Blk _ _ _ _; rw [hW1]; exact Blk.fresh _ _ _
  have x0 : W1.cell? ⟨w.heap.size, 0, none⟩ = some (.int .i64 k) := by rw [hb1.out.cell]; rfl
  obtain ⟨v, hv⟩ : ∃ v, Hid (v = cuA k C) := ⟨_, rfl⟩
  rw [← hv.out] at hW1 ⊢
  go_enter Tryd.func9, Tryd.ntmps9
  go_upto_region 1 with fail
  rw [← hW1]
  clear hW1
  go_wp2
  exact bodyPost_ret (v := .tuple #[encStr [], .int .i64 3]) (by simp [results, Tryd.results9, go_sem]) rfl (ShP.of hs.out hN1.out)
theorem show_hi (k : Int) (C : Cu) (f : Nat → Nat) (w : World) (hC : CuOk w f C) (hW : WordsIs w) (hf : ∀ i, f i < 256) (hT : Lib.TabIs Tryd.prog w "internal/strconv.uint64pow10" .u64 Lib.pow10Tab) (hk1 : ¬ k < 1) (hk : 19 < k) :
    Calls Tryd.prog 9 #[.agg (cuA k C)] w (ShP f k C w) := by
  have hs := Lib.hid (show_kind (f := f) (C := C) (.inr hk))
  obtain ⟨W1, hW1⟩ : ∃ W1, W1 = w.alloc (.cells (cuA k C) 31) := ⟨_, rfl⟩
  have hN1 : Hid (New w W1) := by show New _ _; rw [hW1]; exact (New.refl w).alloc _
  have hb1 : Hid (Blk W1 w.heap.size 31 (cuA k C)) := by show Blk _ _ _ _; rw [hW1]; exact Blk.fresh _ _ _
  have x0 : W1.cell? ⟨w.heap.size, 0, none⟩ = some (.int .i64 k) := by rw [hb1.out.cell]; rfl
  obtain ⟨v, hv⟩ : ∃ v, Hid (v = cuA k C) := ⟨_, rfl⟩
  rw [← hv.out] at hW1 ⊢
  go_enter Tryd.func9, Tryd.ntmps9
  go_upto_region 1 with fail
  rw [← hW1]
  clear hW1
  go_wp2
  exact bodyPost_ret (v := .tuple #[encStr [], .int .i64 3]) (by simp [results, Tryd.results9, go_sem]) rfl (ShP.of hs.out hN1.out)
set_option maxHeartbeats 2000000 in
theorem show_in (i0 : Nat) (hi0 : i0 < 19) (C : Cu) (f : Nat → Nat) (w : World) (hC : CuOk w f C) (hW : WordsIs w) (hf : ∀ i, f i < 256) (hT : Lib.TabIs Tryd.prog w "internal/strconv.uint64pow10" .u64 Lib.pow10Tab) :
    Calls Tryd.prog 9 #[.agg (cuA ((i0 : Int) + 1) C)] w (ShP f ((i0 : Int) + 1) C w) := by
  obtain ⟨k, hk⟩ : ∃ k : Int, Hid (k = (i0 : Int) + 1) := ⟨_, rfl⟩
  have hsn := Lib.hid (fun h => show_none (f := f) (C := C) hi0 h)
  have hss := Lib.hid (fun q h => show_some (f := f) (C := C) hi0 (q := q) h)
  rw [← hk.out] at hsn hss ⊢
  have hk1 : ¬ k < 1 := by rw [hk.out]; omega
  have hk2 : ¬ 19 < k := by rw [hk.out]; omega
  have hkw : IntKind.i64.wrap (k - 1) = (i0 : Int) := by
    rw [hk.out, show (i0 : Int) + 1 - 1 = (i0 : Int) by omega]
    exact IntWalk.i64_in _ (by omega)
  have hi0i : (i0 : Int) < 19 := by omega
  obtain ⟨wd, hwd⟩ : ∃ wd, Hid (wd = (wordK i0).1) := ⟨_, rfl⟩
  obtain ⟨sg, hsg⟩ : ∃ sg, Hid (sg = (wordK i0).2) := ⟨_, rfl⟩
  rw [← hsg.out] at hsn hss
  rw [← hwd.out] at hss
  have hso := Lib.hid (signs_ok i0 hi0)
  rw [← hsg.out] at hso
  have hCH := Lib.hid hC
  have hWH := Lib.hid hW
  have hfH := Lib.hid hf
  have hTH := Lib.hid hT
  obtain ⟨W1, hW1⟩ : ∃ W1, W1 = w.alloc (.cells (cuA k C) 31) := ⟨_, rfl⟩
  have hN1 : Hid (New w W1) := by show New _ _; rw [hW1]; exact (New.refl w).alloc _
  have hb1 : Hid (Blk W1 w.heap.size 31 (cuA k C)) := by show Blk _ _ _ _; rw [hW1]; exact Blk.fresh _ _ _
  have x0 : W1.cell? ⟨w.heap.size, 0, none⟩ = some (.int .i64 k) := by rw [hb1.out.cell]; rfl
  obtain ⟨v, hv⟩ : ∃ v, Hid (v = cuA k C) := ⟨_, rfl⟩
  rw [← hv.out] at hW1 ⊢
  obtain ⟨y0, y1⟩ := words_new hW hN1.out i0 hi0
  rw [← hwd.out] at y0
  rw [← hsg.out] at y1
  obtain ⟨W4, hW4⟩ : ∃ W4, Hid (W4 = (((W1.alloc (.cells #[.string ⟨wd.toArray⟩, .string ⟨sg.toArray⟩] 45)).alloc (.cells #[.string ⟨wd.toArray⟩] 9)).iter ⟨sg.toArray⟩ 0)) := ⟨_, rfl⟩
  clear hC hW hf hT
  go_enter Tryd.func9, Tryd.ntmps9
  go_upto_region 1 with fail
  rw [← hW1]
  clear hW1
  obtain ⟨i1, hi1, hz0, hz1, hz2⟩ := info_parts infoStr
  obtain ⟨I, hI⟩ : ∃ I, Hid (I = W1.heap.size + 1 + 1) := ⟨_, rfl⟩
  have hI4 : Hid (W4.heap[I]? = some (.stringIter ⟨sg.toArray⟩ 0)) := by
    show _ = _
    rw [hW4.out, hI.out]
    have h := World.iter_heap ((W1.alloc (.cells #[.string ⟨wd.toArray⟩, .string ⟨sg.toArray⟩] 45)).alloc (.cells #[.string ⟨wd.toArray⟩] 9)) ⟨sg.toArray⟩ 0
    simpa using h
  have hN14 : Hid (New W1 W4) := by show New _ _; rw [hW4.out]; exact (((New.refl W1).alloc _).alloc _).alloc _
  have hO4 : Hid (W4.ownsRow w.heap.size 9 1 (.slice (some ⟨W1.heap.size + 1, 0, none⟩) 1 1) 1 (([wd] : List Tx).map encStr)) := by
    show World.ownsRow _ _ _ _ _ _ _
    rw [hW4.out]
    have hz := hN1.out.size
    have h := World.ownsRow_lit (base := w.heap.size) (e := 9) (size := 1) (W1.alloc (.cells #[.string ⟨wd.toArray⟩, .string ⟨sg.toArray⟩] 45)) #[.string ⟨wd.toArray⟩] 1 (by simp; omega) (by decide) rfl
    have h2 := h.alloc (.stringIter ⟨sg.toArray⟩ 0)
    simp at h2
    exact h2
  obtain ⟨n, hn⟩ : ∃ n, Hid (n = sg.length) := ⟨_, rfl⟩
  go_upto_region 6 with fail
  rw [← hW4.out, ← hI.out]
  clear x0 y0 y1
  have hb4 := Lib.hid (hb1.out.new hN14.out)
  have hN4 := Lib.hid (hN1.out.next hN14.out)
  go_loopw [5] (fun ov wr => ∃ (i : Nat) (ps : List Tx) (cur : Cu), i ≤ n ∧ Hid (wr.heap[I]? = some (.stringIter ⟨sg.toArray⟩ i)) ∧ Hid (Blk wr w.heap.size 31 (cuA k cur)) ∧ Hid (wr.ownsRow w.heap.size 9 1 ov (i + 1) ((wd :: ps).map encStr)) ∧ Hid (CuOk w f cur) ∧ Hid (Far f sg C i ps cur) ∧ Hid (ps.length = i ∧ (tailT ps).length ≤ i * 2097154) ∧ Hid (New w wr)) (fun _ wr => n - wr.iterPos I)
  case atStart => exact ⟨0, [], C, Nat.zero_le _, hI4, hb4, hO4, hCH, Far.start _ _ _, ⟨rfl, Nat.zero_le _⟩, hN4⟩
  case round =>
    obtain ⟨i, ps, cur, hi, hIt, hB, hO, hCu, hFar, hPl, hN⟩ := hrel
    have hmu : Hid (wr.iterPos I = i) := by show _ = _; simp [World.iterPos, hIt.out]
    by_cases hlt : i < n
    · have hls : i < sg.length := by rw [← hn.out]; exact hlt
      obtain ⟨s, hs⟩ : ∃ s, Hid (s = sg[i]) := ⟨sg[i], rfl⟩
      have hmem : s ∈ sg := by rw [hs.out]; exact List.getElem_mem hls
      have hdr : Hid (sg.drop i = s :: sg.drop (i + 1)) := by show _ = _; rw [hs.out]; exact drop_at hls
      have hn4 : n ≤ 4 := by rw [hn.out]; exact hso.out.1
      have hall := hso.out.2 s hmem
      have hnext : ∀ ty, (Instr.next (.pointer (some ⟨I, 0, none⟩)) true ty).run Tryd.prog wr = .ok (.tuple #[.bool true, .int .i64 i, .int .i32 (s.toNat : Nat)]) (wr.iterAt I ⟨sg.toArray⟩ (i + 1)) := fun ty => by
        have h := Lib.run_next_ascii_at (P := Tryd.prog) wr I ⟨sg.toArray⟩ i ty hIt.out (by show i < sg.toArray.size; simpa using hls) (by
          show (sg[i]).toNat < 128
          rw [← hs.out]
          rcases hall with h | h | h | h | h | h | h <;> rw [h] <;> decide)
        rw [h, hs.out]
        rfl
      have hI5 := Lib.hid (Lib.iterAt_heap wr I ⟨sg.toArray⟩ i (i + 1) hIt.out)
      have ha5 : Alt (fun g => g = I) wr (wr.iterAt I ⟨sg.toArray⟩ (i + 1)) := alt_iterAt hIt.out
      have hPI : w.heap.size ≠ I := fun e => by
        have h1 := hB.out
        unfold Blk at h1
        rw [e, hIt.out] at h1
        cases h1
      have hB5 := Lib.hid (ha5.blk hB.out hPI)
      have hO5 := Lib.hid (Alt.own ha5 hO.out fun g hg e => by
        subst e
        rcases hO.out.2 with ⟨h0, _⟩ | ⟨g', cap, cur, h0, _, hg0, _⟩
        · rw [h0] at hg; cases hg
        · rw [h0] at hg
          have : g' = g := by simpa [Value.ownBlock] using hg
          subst this
          rw [hIt.out] at hg0
          cases hg0)
      have hIw : w.heap.size ≤ I := by
        have := hN1.out.size
        rw [hI.out]
        omega
      have hN5 : Hid (New w (wr.iterAt I ⟨sg.toArray⟩ (i + 1))) := hN.out.trans (ha5.below hN.out.size fun g hg => by omega)
      clear hmem
      generalize wr.iterAt I ⟨sg.toArray⟩ (i + 1) = W5 at hnext hI5 ha5 hB5 hO5 hN5
      clear ha5 hO hB hIt hN
      have c0 := hB5.out.cell 0
      have c1 := hB5.out.cell 1
      have c2 := hB5.out.cell 2
      have c3 := hB5.out.cell 3
      have c4 := hB5.out.cell 4
      have c5 := hB5.out.cell 5
      have c6 := hB5.out.cell 6
      have c7 := hB5.out.cell 7
      simp [cuA] at c0 c1 c2 c3 c4 c5 c6 c7
      have hlen5 := hN5.out.size
      have hpl1 := hPl.out.1
      have hnx : Hid (∀ x : Tx, ((wd :: ps).map encStr) ++ [encStr x] = (wd :: (ps ++ [x])).map encStr) := fun x => by simp
      have htl : Hid (∀ x : Tx, x.length ≤ 2097153 → (ps ++ [x]).length = i + 1 ∧ (tailT (ps ++ [x])).length ≤ (i + 1) * 2097154) := fun x hx => by
        obtain ⟨h1, h2⟩ := hPl.out
        refine ⟨by simp [h1], ?_⟩
        rw [tailT_app, tailT_one, List.length_append, List.length_cons]
        omega
      clear hpl1
      rcases hall with rfl | rfl | rfl | rfl | rfl | rfl | rfl
      · have hnm : Hid (Calls Tryd.prog 18 #[encStr cur.nm] W5 fun e w' => e = .returned (.bool (goodN cur.nm)) ∧ New W5 w') := Name_any cur.nm (by have := hCu.out.nl; unfold maxLen; omega) W5
        obtain ⟨q, hq⟩ : ∃ q, Hid (q = goodN cur.nm) := ⟨_, rfl⟩
        rw [← hq.out] at hnm
        cases q
        · have hbad : Hid (badS 110 cur = true) := by show _ = _; unfold badS; rw [← hq.out]; rfl
          go_wp2_with (first
          | (go_at_call 26; refine (field_n w.heap.size W5).mono ?_; rintro e w9 ⟨rfl, rfl⟩)
          | (go_at_call 18; refine hnm.out.mono ?_; rintro e w2 ⟨rfl, hn2⟩; have hn2 := Lib.hid hn2))
          exact bodyPost_ret (v := .tuple #[encStr [], .int .i64 4]) (by simp [results, Tryd.results9, go_sem]) rfl (ShP.of (hsn.out (Far.fails hFar.out hdr.out hbad.out)) (hN5.out.next hn2.out))
        · have hbad : Hid (badS 110 cur = false) := by show _ = _; unfold badS; rw [← hq.out]; rfl
          obtain ⟨xw, hxw⟩ : ∃ xw, Hid (xw = part f 110 cur) := ⟨_, rfl⟩
          have hxe : Hid (xw = cur.nm) := by show _ = _; rw [hxw.out]; rfl
          have hxl : xw.length ≤ 2097153 := by rw [hxw.out]; exact part_len hCu.out 110
          have hxw1 := hxe.out
          rw [← hxw1] at c1 hnm
          clear hxw1
          go_wp2_with (first
          | (go_at_call 26; refine (field_n w.heap.size W5).mono ?_; rintro e w9 ⟨rfl, rfl⟩)
          | (go_at_call 18; refine hnm.out.mono ?_; rintro e w2 ⟨rfl, hn2⟩
             have hn2 := Lib.hid hn2
             have hB2 := Lib.hid (hB5.out.new hn2.out)
             have hO2 := Lib.hid (own_new hO5.out hn2.out)
             have hI2 : Hid (w2.heap[I]? = some (.stringIter ⟨sg.toArray⟩ (i + 1))) := (hn2.out.block I (by have := (Array.getElem?_eq_some_iff.1 hI5.out).1; exact this)).trans hI5.out
             have hN2 := Lib.hid (hN5.out.next hn2.out)
             have hlen2 := hN2.out.size
             have c1 := hB2.out.cell 1
             simp [cuA] at c1
             rw [← hxe.out] at c1)
          | (at_builtin; refine wpList_append_lies _ rfl (.tmp 48) (.tmp 52) 24 rfl w.heap.size 9 i1 _ 1 16 Tryd.underlying24 hi1 hz0 hz1 hz2 rfl (by decide) u5 (i + 1) ((wd :: ps).map encStr) rfl (hO2.out.alloc _) ⟨w2.heap.size, 0, none⟩ 1 1 [encStr xw] rfl rfl (World.news_of_block (cs := #[.string _]) (t := 9) (fr := (0, 0)) (heap_alloc_new w2 _)) (by simp [Value.oneCell', encStr]) (by omega) (by unfold maxLen; omega) (by omega) (by simp; omega) _ rfl ?_
             intro g6 c6' w6 hown6 hgr6 hat6 hlt6
             obtain ⟨hb6, hb8, ho8, hi8, hN8⟩ := step_mem (t := 31) (by decide) hB2.out hO2.out hI2.out hN2.out (Nat.le_refl _) hgr6 hown6 1 (encStr [])
             have hb6 := Lib.hid hb6
             have hb8 := Lib.hid hb8
             have ho8 := Lib.hid ho8
             have hi8 := Lib.hid hi8
             have hN8 := Lib.hid hN8
             have fz := hb6.out.frozen 1
             have cz := hb6.out.cell 1
             simp [cuA] at cz
             clear hown6 hgr6 hat6 hlt6))
          go_roundw
          case rel =>
            refine ⟨i + 1, ps ++ [xw], clr 110 cur, by omega, hi8, ?_, ?_, hCu.out.clr 110, ?_, htl.out xw hxl, hN8⟩
            · show Blk _ _ _ _
              have h := hb8.out
              simpa [cuA, clr] using h
            · show World.ownsRow _ _ _ _ _ _ _
              rw [← hnx.out]
              exact ho8.out
            · have h := Far.more hFar.out hdr.out hbad.out
              rw [hxw.out]
              exact h
          case measure =>
            have h := hi8.out
            rw [hmu.out]
            simp [World.iterPos, h]
            omega
      · have hnm : Hid (Calls Tryd.prog 18 #[encStr cur.ot] W5 fun e w' => e = .returned (.bool (goodN cur.ot)) ∧ New W5 w') := Name_any cur.ot (by have := hCu.out.ol; unfold maxLen; omega) W5
        obtain ⟨q, hq⟩ : ∃ q, Hid (q = goodN cur.ot) := ⟨_, rfl⟩
        rw [← hq.out] at hnm
        cases q
        · have hbad : Hid (badS 111 cur = true) := by show _ = _; unfold badS; rw [← hq.out]; rfl
          go_wp2_with (first
          | (go_at_call 26; refine (field_o w.heap.size W5).mono ?_; rintro e w9 ⟨rfl, rfl⟩)
          | (go_at_call 18; refine hnm.out.mono ?_; rintro e w2 ⟨rfl, hn2⟩; have hn2 := Lib.hid hn2))
          exact bodyPost_ret (v := .tuple #[encStr [], .int .i64 4]) (by simp [results, Tryd.results9, go_sem]) rfl (ShP.of (hsn.out (Far.fails hFar.out hdr.out hbad.out)) (hN5.out.next hn2.out))
        · have hbad : Hid (badS 111 cur = false) := by show _ = _; unfold badS; rw [← hq.out]; rfl
          obtain ⟨xw, hxw⟩ : ∃ xw, Hid (xw = part f 111 cur) := ⟨_, rfl⟩
          have hxe : Hid (xw = cur.ot) := by show _ = _; rw [hxw.out]; rfl
          have hxl : xw.length ≤ 2097153 := by rw [hxw.out]; exact part_len hCu.out 111
          have hxw1 := hxe.out
          rw [← hxw1] at c2 hnm
          clear hxw1
          go_wp2_with (first
          | (go_at_call 26; refine (field_o w.heap.size W5).mono ?_; rintro e w9 ⟨rfl, rfl⟩)
          | (go_at_call 18; refine hnm.out.mono ?_; rintro e w2 ⟨rfl, hn2⟩
             have hn2 := Lib.hid hn2
             have hB2 := Lib.hid (hB5.out.new hn2.out)
             have hO2 := Lib.hid (own_new hO5.out hn2.out)
             have hI2 : Hid (w2.heap[I]? = some (.stringIter ⟨sg.toArray⟩ (i + 1))) := (hn2.out.block I (by have := (Array.getElem?_eq_some_iff.1 hI5.out).1; exact this)).trans hI5.out
             have hN2 := Lib.hid (hN5.out.next hn2.out)
             have hlen2 := hN2.out.size
             have c2 := hB2.out.cell 2
             simp [cuA] at c2
             rw [← hxe.out] at c2)
          | (at_builtin; refine wpList_append_lies _ rfl (.tmp 48) (.tmp 52) 24 rfl w.heap.size 9 i1 _ 1 16 Tryd.underlying24 hi1 hz0 hz1 hz2 rfl (by decide) u5 (i + 1) ((wd :: ps).map encStr) rfl (hO2.out.alloc _) ⟨w2.heap.size, 0, none⟩ 1 1 [encStr xw] rfl rfl (World.news_of_block (cs := #[.string _]) (t := 9) (fr := (0, 0)) (heap_alloc_new w2 _)) (by simp [Value.oneCell', encStr]) (by omega) (by unfold maxLen; omega) (by omega) (by simp; omega) _ rfl ?_
             intro g6 c6' w6 hown6 hgr6 hat6 hlt6
             obtain ⟨hb6, hb8, ho8, hi8, hN8⟩ := step_mem (t := 31) (by decide) hB2.out hO2.out hI2.out hN2.out (Nat.le_refl _) hgr6 hown6 2 (encStr [])
             have hb6 := Lib.hid hb6
             have hb8 := Lib.hid hb8
             have ho8 := Lib.hid ho8
             have hi8 := Lib.hid hi8
             have hN8 := Lib.hid hN8
             have fz := hb6.out.frozen 2
             have cz := hb6.out.cell 2
             simp [cuA] at cz
             clear hown6 hgr6 hat6 hlt6))
          go_roundw
          case rel =>
            refine ⟨i + 1, ps ++ [xw], clr 111 cur, by omega, hi8, ?_, ?_, hCu.out.clr 111, ?_, htl.out xw hxl, hN8⟩
            · show Blk _ _ _ _
              have h := hb8.out
              simpa [cuA, clr] using h
            · show World.ownsRow _ _ _ _ _ _ _
              rw [← hnx.out]
              exact ho8.out
            · have h := Far.more hFar.out hdr.out hbad.out
              rw [hxw.out]
              exact h
          case measure =>
            have h := hi8.out
            rw [hmu.out]
            simp [World.iterPos, h]
            omega
      · have hbad : Hid (badS 102 cur = false) := rfl
        have hit : Hid (Calls Tryd.prog 20 #[.int .i64 cur.off] W5 fun e w' => e = .returned (encStr (Lib.itoa cur.off)) ∧ New W5 w') := itoa_new cur.off hCu.out.o0 hCu.out.o1 W5 (tab_new hTH.out hN5.out)
        · skip
          obtain ⟨xw, hxw⟩ : ∃ xw, Hid (xw = part f 102 cur) := ⟨_, rfl⟩
          have hxe : Hid (xw = (Lib.itoa cur.off)) := by show _ = _; rw [hxw.out]; rfl
          have hxl : xw.length ≤ 2097153 := by rw [hxw.out]; exact part_len hCu.out 102
          rw [← hxe.out] at hit
          go_wp2_with (first
          | (go_at_call 26; refine (field_f w.heap.size W5).mono ?_; rintro e w9 ⟨rfl, rfl⟩)
          | (go_at_call 20; refine hit.out.mono ?_; rintro e w2 ⟨rfl, hn2⟩
             have hn2 := Lib.hid hn2
             have hB2 := Lib.hid (hB5.out.new hn2.out)
             have hO2 := Lib.hid (own_new hO5.out hn2.out)
             have hI2 : Hid (w2.heap[I]? = some (.stringIter ⟨sg.toArray⟩ (i + 1))) := (hn2.out.block I (by have := (Array.getElem?_eq_some_iff.1 hI5.out).1; exact this)).trans hI5.out
             have hN2 := Lib.hid (hN5.out.next hn2.out)
             have hlen2 := hN2.out.size
             have c3 := hB2.out.cell 3
             simp [cuA] at c3)
          | (at_builtin; refine wpList_append_lies _ rfl (.tmp 59) (.tmp 64) 24 rfl w.heap.size 9 i1 _ 1 16 Tryd.underlying24 hi1 hz0 hz1 hz2 rfl (by decide) u5 (i + 1) ((wd :: ps).map encStr) rfl (hO2.out.alloc _) ⟨w2.heap.size, 0, none⟩ 1 1 [encStr xw] rfl rfl (World.news_of_block (cs := #[.string _]) (t := 9) (fr := (0, 0)) (heap_alloc_new w2 _)) (by simp [Value.oneCell', encStr]) (by omega) (by unfold maxLen; omega) (by omega) (by simp; omega) _ rfl ?_
             intro g6 c6' w6 hown6 hgr6 hat6 hlt6
             obtain ⟨hb6, hb8, ho8, hi8, hN8⟩ := step_mem (t := 31) (by decide) hB2.out hO2.out hI2.out hN2.out (Nat.le_refl _) hgr6 hown6 3 (.int .i64 0)
             have hb6 := Lib.hid hb6
             have hb8 := Lib.hid hb8
             have ho8 := Lib.hid ho8
             have hi8 := Lib.hid hi8
             have hN8 := Lib.hid hN8
             have fz := hb6.out.frozen 3
             have cz := hb6.out.cell 3
             simp [cuA] at cz
             clear hown6 hgr6 hat6 hlt6))
          go_roundw
          case rel =>
            refine ⟨i + 1, ps ++ [xw], clr 102 cur, by omega, hi8, ?_, ?_, hCu.out.clr 102, ?_, htl.out xw hxl, hN8⟩
            · show Blk _ _ _ _
              have h := hb8.out
              simpa [cuA, clr] using h
            · show World.ownsRow _ _ _ _ _ _ _
              rw [← hnx.out]
              exact ho8.out
            · have h := Far.more hFar.out hdr.out hbad.out
              rw [hxw.out]
              exact h
          case measure =>
            have h := hi8.out
            rw [hmu.out]
            simp [World.iterPos, h]
            omega
      · have hbad : Hid (badS 99 cur = false) := rfl
        have hit : Hid (Calls Tryd.prog 20 #[.int .i64 cur.cnt] W5 fun e w' => e = .returned (encStr (Lib.itoa cur.cnt)) ∧ New W5 w') := itoa_new cur.cnt hCu.out.c0 hCu.out.c1 W5 (tab_new hTH.out hN5.out)
        · skip
          obtain ⟨xw, hxw⟩ : ∃ xw, Hid (xw = part f 99 cur) := ⟨_, rfl⟩
          have hxe : Hid (xw = (Lib.itoa cur.cnt)) := by show _ = _; rw [hxw.out]; rfl
          have hxl : xw.length ≤ 2097153 := by rw [hxw.out]; exact part_len hCu.out 99
          rw [← hxe.out] at hit
          go_wp2_with (first
          | (go_at_call 26; refine (field_c w.heap.size W5).mono ?_; rintro e w9 ⟨rfl, rfl⟩)
          | (go_at_call 20; refine hit.out.mono ?_; rintro e w2 ⟨rfl, hn2⟩
             have hn2 := Lib.hid hn2
             have hB2 := Lib.hid (hB5.out.new hn2.out)
             have hO2 := Lib.hid (own_new hO5.out hn2.out)
             have hI2 : Hid (w2.heap[I]? = some (.stringIter ⟨sg.toArray⟩ (i + 1))) := (hn2.out.block I (by have := (Array.getElem?_eq_some_iff.1 hI5.out).1; exact this)).trans hI5.out
             have hN2 := Lib.hid (hN5.out.next hn2.out)
             have hlen2 := hN2.out.size
             have c4 := hB2.out.cell 4
             simp [cuA] at c4)
          | (at_builtin; refine wpList_append_lies _ rfl (.tmp 59) (.tmp 64) 24 rfl w.heap.size 9 i1 _ 1 16 Tryd.underlying24 hi1 hz0 hz1 hz2 rfl (by decide) u5 (i + 1) ((wd :: ps).map encStr) rfl (hO2.out.alloc _) ⟨w2.heap.size, 0, none⟩ 1 1 [encStr xw] rfl rfl (World.news_of_block (cs := #[.string _]) (t := 9) (fr := (0, 0)) (heap_alloc_new w2 _)) (by simp [Value.oneCell', encStr]) (by omega) (by unfold maxLen; omega) (by omega) (by simp; omega) _ rfl ?_
             intro g6 c6' w6 hown6 hgr6 hat6 hlt6
             obtain ⟨hb6, hb8, ho8, hi8, hN8⟩ := step_mem (t := 31) (by decide) hB2.out hO2.out hI2.out hN2.out (Nat.le_refl _) hgr6 hown6 4 (.int .i64 0)
             have hb6 := Lib.hid hb6
             have hb8 := Lib.hid hb8
             have ho8 := Lib.hid ho8
             have hi8 := Lib.hid hi8
             have hN8 := Lib.hid hN8
             have fz := hb6.out.frozen 4
             have cz := hb6.out.cell 4
             simp [cuA] at cz
             clear hown6 hgr6 hat6 hlt6))
          go_roundw
          case rel =>
            refine ⟨i + 1, ps ++ [xw], clr 99 cur, by omega, hi8, ?_, ?_, hCu.out.clr 99, ?_, htl.out xw hxl, hN8⟩
            · show Blk _ _ _ _
              have h := hb8.out
              simpa [cuA, clr] using h
            · show World.ownsRow _ _ _ _ _ _ _
              rw [← hnx.out]
              exact ho8.out
            · have h := Far.more hFar.out hdr.out hbad.out
              rw [hxw.out]
              exact h
          case measure =>
            have h := hi8.out
            rw [hmu.out]
            simp [World.iterPos, h]
            omega
      · have hbad : Hid (badS 100 cur = false) := rfl
        have hit : Hid (Calls Tryd.prog 20 #[.int .i64 cur.drv] W5 fun e w' => e = .returned (encStr (Lib.itoa cur.drv)) ∧ New W5 w') := itoa_new cur.drv hCu.out.d0 hCu.out.d1 W5 (tab_new hTH.out hN5.out)
        · skip
          obtain ⟨xw, hxw⟩ : ∃ xw, Hid (xw = part f 100 cur) := ⟨_, rfl⟩
          have hxe : Hid (xw = (Lib.itoa cur.drv)) := by show _ = _; rw [hxw.out]; rfl
          have hxl : xw.length ≤ 2097153 := by rw [hxw.out]; exact part_len hCu.out 100
          rw [← hxe.out] at hit
          go_wp2_with (first
          | (go_at_call 26; refine (field_d w.heap.size W5).mono ?_; rintro e w9 ⟨rfl, rfl⟩)
          | (go_at_call 20; refine hit.out.mono ?_; rintro e w2 ⟨rfl, hn2⟩
             have hn2 := Lib.hid hn2
             have hB2 := Lib.hid (hB5.out.new hn2.out)
             have hO2 := Lib.hid (own_new hO5.out hn2.out)
             have hI2 : Hid (w2.heap[I]? = some (.stringIter ⟨sg.toArray⟩ (i + 1))) := (hn2.out.block I (by have := (Array.getElem?_eq_some_iff.1 hI5.out).1; exact this)).trans hI5.out
             have hN2 := Lib.hid (hN5.out.next hn2.out)
             have hlen2 := hN2.out.size
             have c5 := hB2.out.cell 5
             simp [cuA] at c5)
          | (at_builtin; refine wpList_append_lies _ rfl (.tmp 59) (.tmp 64) 24 rfl w.heap.size 9 i1 _ 1 16 Tryd.underlying24 hi1 hz0 hz1 hz2 rfl (by decide) u5 (i + 1) ((wd :: ps).map encStr) rfl (hO2.out.alloc _) ⟨w2.heap.size, 0, none⟩ 1 1 [encStr xw] rfl rfl (World.news_of_block (cs := #[.string _]) (t := 9) (fr := (0, 0)) (heap_alloc_new w2 _)) (by simp [Value.oneCell', encStr]) (by omega) (by unfold maxLen; omega) (by omega) (by simp; omega) _ rfl ?_
             intro g6 c6' w6 hown6 hgr6 hat6 hlt6
             obtain ⟨hb6, hb8, ho8, hi8, hN8⟩ := step_mem (t := 31) (by decide) hB2.out hO2.out hI2.out hN2.out (Nat.le_refl _) hgr6 hown6 5 (.int .i64 0)
             have hb6 := Lib.hid hb6
             have hb8 := Lib.hid hb8
             have ho8 := Lib.hid ho8
             have hi8 := Lib.hid hi8
             have hN8 := Lib.hid hN8
             have fz := hb6.out.frozen 5
             have cz := hb6.out.cell 5
             simp [cuA] at cz
             clear hown6 hgr6 hat6 hlt6))
          go_roundw
          case rel =>
            refine ⟨i + 1, ps ++ [xw], clr 100 cur, by omega, hi8, ?_, ?_, hCu.out.clr 100, ?_, htl.out xw hxl, hN8⟩
            · show Blk _ _ _ _
              have h := hb8.out
              simpa [cuA, clr] using h
            · show World.ownsRow _ _ _ _ _ _ _
              rw [← hnx.out]
              exact ho8.out
            · have h := Far.more hFar.out hdr.out hbad.out
              rw [hxw.out]
              exact h
          case measure =>
            have h := hi8.out
            rw [hmu.out]
            simp [World.iterPos, h]
            omega
      · have hbad : Hid (badS 107 cur = false) := rfl
        have hit : Hid (Calls Tryd.prog 20 #[.int .i64 cur.kp] W5 fun e w' => e = .returned (encStr (Lib.itoa cur.kp)) ∧ New W5 w') := itoa_new cur.kp hCu.out.k0 hCu.out.k1 W5 (tab_new hTH.out hN5.out)
        · skip
          obtain ⟨xw, hxw⟩ : ∃ xw, Hid (xw = part f 107 cur) := ⟨_, rfl⟩
          have hxe : Hid (xw = (Lib.itoa cur.kp)) := by show _ = _; rw [hxw.out]; rfl
          have hxl : xw.length ≤ 2097153 := by rw [hxw.out]; exact part_len hCu.out 107
          rw [← hxe.out] at hit
          go_wp2_with (first
          | (go_at_call 26; refine (field_k w.heap.size W5).mono ?_; rintro e w9 ⟨rfl, rfl⟩)
          | (go_at_call 20; refine hit.out.mono ?_; rintro e w2 ⟨rfl, hn2⟩
             have hn2 := Lib.hid hn2
             have hB2 := Lib.hid (hB5.out.new hn2.out)
             have hO2 := Lib.hid (own_new hO5.out hn2.out)
             have hI2 : Hid (w2.heap[I]? = some (.stringIter ⟨sg.toArray⟩ (i + 1))) := (hn2.out.block I (by have := (Array.getElem?_eq_some_iff.1 hI5.out).1; exact this)).trans hI5.out
             have hN2 := Lib.hid (hN5.out.next hn2.out)
             have hlen2 := hN2.out.size
             have c6 := hB2.out.cell 6
             simp [cuA] at c6)
          | (at_builtin; refine wpList_append_lies _ rfl (.tmp 59) (.tmp 64) 24 rfl w.heap.size 9 i1 _ 1 16 Tryd.underlying24 hi1 hz0 hz1 hz2 rfl (by decide) u5 (i + 1) ((wd :: ps).map encStr) rfl (hO2.out.alloc _) ⟨w2.heap.size, 0, none⟩ 1 1 [encStr xw] rfl rfl (World.news_of_block (cs := #[.string _]) (t := 9) (fr := (0, 0)) (heap_alloc_new w2 _)) (by simp [Value.oneCell', encStr]) (by omega) (by unfold maxLen; omega) (by omega) (by simp; omega) _ rfl ?_
             intro g6 c6' w6 hown6 hgr6 hat6 hlt6
             obtain ⟨hb6, hb8, ho8, hi8, hN8⟩ := step_mem (t := 31) (by decide) hB2.out hO2.out hI2.out hN2.out (Nat.le_refl _) hgr6 hown6 6 (.int .i64 0)
             have hb6 := Lib.hid hb6
             have hb8 := Lib.hid hb8
             have ho8 := Lib.hid ho8
             have hi8 := Lib.hid hi8
             have hN8 := Lib.hid hN8
             have fz := hb6.out.frozen 6
             have cz := hb6.out.cell 6
             simp [cuA] at cz
             clear hown6 hgr6 hat6 hlt6))
          go_roundw
          case rel =>
            refine ⟨i + 1, ps ++ [xw], clr 107 cur, by omega, hi8, ?_, ?_, hCu.out.clr 107, ?_, htl.out xw hxl, hN8⟩
            · show Blk _ _ _ _
              have h := hb8.out
              simpa [cuA, clr] using h
            · show World.ownsRow _ _ _ _ _ _ _
              rw [← hnx.out]
              exact ho8.out
            · have h := Far.more hFar.out hdr.out hbad.out
              rw [hxw.out]
              exact h
          case measure =>
            have h := hi8.out
            rw [hmu.out]
            simp [World.iterPos, h]
            omega
      · have hbad : Hid (badS 120 cur = false) := rfl
        have hit : Hid (Calls Tryd.prog 21 #[.slice cur.R cur.dn cur.dc] W5 fun e w' => e = .returned (encStr (hexT f cur.dn)) ∧ New W5 w') := hex_any cur.R cur.dn cur.dc f W5 (hCu.out.dat.new hN5.out) hfH.out hCu.out.n1
        · skip
          obtain ⟨xw, hxw⟩ : ∃ xw, Hid (xw = part f 120 cur) := ⟨_, rfl⟩
          have hxe : Hid (xw = (hexT f cur.dn)) := by show _ = _; rw [hxw.out]; rfl
          have hxl : xw.length ≤ 2097153 := by rw [hxw.out]; exact part_len hCu.out 120
          rw [← hxe.out] at hit
          go_wp2_with (first
          | (go_at_call 26; refine (field_x w.heap.size W5).mono ?_; rintro e w9 ⟨rfl, rfl⟩)
          | (go_at_call 21; refine hit.out.mono ?_; rintro e w2 ⟨rfl, hn2⟩
             have hn2 := Lib.hid hn2
             have hB2 := Lib.hid (hB5.out.new hn2.out)
             have hO2 := Lib.hid (own_new hO5.out hn2.out)
             have hI2 : Hid (w2.heap[I]? = some (.stringIter ⟨sg.toArray⟩ (i + 1))) := (hn2.out.block I (by have := (Array.getElem?_eq_some_iff.1 hI5.out).1; exact this)).trans hI5.out
             have hN2 := Lib.hid (hN5.out.next hn2.out)
             have hlen2 := hN2.out.size
             have c7 := hB2.out.cell 7
             simp [cuA] at c7)
          | (at_builtin; refine wpList_append_lies _ rfl (.tmp 71) (.tmp 76) 24 rfl w.heap.size 9 i1 _ 1 16 Tryd.underlying24 hi1 hz0 hz1 hz2 rfl (by decide) u5 (i + 1) ((wd :: ps).map encStr) rfl (hO2.out.alloc _) ⟨w2.heap.size, 0, none⟩ 1 1 [encStr xw] rfl rfl (World.news_of_block (cs := #[.string _]) (t := 9) (fr := (0, 0)) (heap_alloc_new w2 _)) (by simp [Value.oneCell', encStr]) (by omega) (by unfold maxLen; omega) (by omega) (by simp; omega) _ rfl ?_
             intro g6 c6' w6 hown6 hgr6 hat6 hlt6
             obtain ⟨hb6, hb8, ho8, hi8, hN8⟩ := step_mem (t := 31) (by decide) hB2.out hO2.out hI2.out hN2.out (Nat.le_refl _) hgr6 hown6 7 (.slice none 0 0)
             have hb6 := Lib.hid hb6
             have hb8 := Lib.hid hb8
             have ho8 := Lib.hid ho8
             have hi8 := Lib.hid hi8
             have hN8 := Lib.hid hN8
             have fz := hb6.out.frozen 7
             have cz := hb6.out.cell 7
             simp [cuA] at cz
             clear hown6 hgr6 hat6 hlt6))
          go_roundw
          case rel =>
            refine ⟨i + 1, ps ++ [xw], clr 120 cur, by omega, hi8, ?_, ?_, hCu.out.clr 120, ?_, htl.out xw hxl, hN8⟩
            · show Blk _ _ _ _
              have h := hb8.out
              simpa [cuA, clr] using h
            · show World.ownsRow _ _ _ _ _ _ _
              rw [← hnx.out]
              exact ho8.out
            · have h := Far.more hFar.out hdr.out hbad.out
              rw [hxw.out]
              exact h
          case measure =>
            have h := hi8.out
            rw [hmu.out]
            simp [World.iterPos, h]
            omega
    · have hin : i = n := by omega
      subst hin
      have hend : ∀ ty, (Instr.next (.pointer (some ⟨I, 0, none⟩)) true ty).run Tryd.prog wr = .ok (.tuple #[.bool false]) wr := fun ty => Lib.run_next_end_at (P := Tryd.prog) wr I ⟨sg.toArray⟩ i ty hIt.out (by show ¬ i < sg.toArray.size; have := hn.out; simp; omega)
      have hgo := Lib.hid (hss.out (ps, cur) (Far.done (by have h := hFar.out; rw [hn.out] at h; exact h)))
      have hdat := hCu.out.n1
      have hnl := hCu.out.nl
      have hol := hCu.out.ol
      have c1 := hB.out.cell 1
      have c2 := hB.out.cell 2
      have c3 := hB.out.cell 3
      have c4 := hB.out.cell 4
      have c5 := hB.out.cell 5
      have c6 := hB.out.cell 6
      have c7 := hB.out.cell 7
      simp [cuA] at c1 c2 c3 c4 c5 c6 c7
      obtain ⟨o1, ho1⟩ : ∃ o, bits .or .i64 cur.off cur.cnt = o := ⟨_, rfl⟩
      obtain ⟨o2, ho2⟩ : ∃ o, bits .or .i64 o1 cur.drv = o := ⟨_, rfl⟩
      obtain ⟨o3, ho3⟩ : ∃ o, bits .or .i64 o2 cur.kp = o := ⟨_, rfl⟩
      have hz : Hid (o3 = 0 ↔ ((cur.off = 0 ∧ cur.cnt = 0) ∧ cur.drv = 0) ∧ cur.kp = 0) := by
        show _ ↔ _
        have b1 := or_bd cur.off cur.cnt
        have b2 := or_bd o1 cur.drv
        rw [ho1] at b1
        rw [ho2] at b2
        rw [← ho3, or64 b2.1 b2.2 hCu.out.k0 hCu.out.k1, ← ho2, or64 b1.1 b1.2 hCu.out.d0 hCu.out.d1, ← ho1, or64 hCu.out.o0 hCu.out.o1 hCu.out.c0 hCu.out.c1]
      obtain ⟨z, hzz⟩ : ∃ z, Hid (z = cur.nm ++ cur.ot) := ⟨_, rfl⟩
      have hcat : ((⟨cur.nm.toArray⟩ : ByteArray) ++ ⟨cur.ot.toArray⟩) = ⟨z.toArray⟩ := by rw [ByteArray.mk_append_mk, hzz.out]
      have hBAD : Hid (zeroC cur = false → showT f k C = ([], 4)) := fun h => by
        have h2 := hgo.out
        rw [h2, if_neg (by rw [h]; decide)]
      clear hi
      by_cases hz1 : z = []
      · subst hz1
        by_cases hz2 : o3 = 0
        · by_cases hz3 : cur.dn = 0
          · have hZ : Hid (zeroC cur = true) := by
              show _ = _
              unfold zeroC
              have h1 := hzz.out.symm
              rw [List.append_eq_nil_iff] at h1
              obtain ⟨⟨⟨q1, q2⟩, q3⟩, q4⟩ := hz.out.1 hz2
              exact decide_eq_true ⟨h1.1, h1.2, q1, q2, q3, q4, hz3⟩
            have hgo2 : Hid (showT f k C = (wd ++ tailT ps, 0)) := by
              show _ = _
              have h2 := hgo.out
              rw [h2, if_pos hZ.out]
            have hn4 : i ≤ 4 := by rw [hn.out]; exact hso.out.1
            have hwl : wd.length ≤ 10 := by rw [hwd.out]; exact word_len i0 hi0
            obtain ⟨A5, c5', hu5, _⟩ := own_open hO.out
            have hO' := hO.out
            rw [hu5] at hO' ⊢
            have hj := Lib.hid (join_own (M := i + 1) (wd :: ps) (by have := hPl.out.1; rw [List.length_cons, this]) (Nat.succ_pos _) hO' (by
              have h1 := hPl.out.2
              have h2 : i * 2097154 ≤ 4 * 2097154 := Nat.mul_le_mul_right _ (by omega)
              rw [Lib.join_cons, List.length_append]
              show wd.length + (tailT ps).length ≤ _
              omega) (by omega))
            rw [Lib.join_cons] at hj
            obtain ⟨res, hres⟩ : ∃ res : Tx, Hid (res = wd ++ tailT ps) := ⟨_, rfl⟩
            rw [show wd ++ Lib.joinTail [32] ps = wd ++ tailT ps from rfl, ← hres.out] at hj
            rw [← hres.out] at hgo2
            rw [hz3] at c7
            clear hz3 hdat hO'
            go_wp2_with (go_at_call 22; refine hj.out.mono ?_; rintro e w9 ⟨rfl, hn9⟩; have hn9 := Lib.hid hn9)
            exact bodyPost_ret (v := .tuple #[encStr res, .int .i64 0]) (by simp [results, Tryd.results9, go_sem]) rfl (ShP.of hgo2.out (hN.out.next hn9.out))
          · have hb := Lib.hid (hBAD.out (decide_eq_false fun h => hz3 h.2.2.2.2.2.2))
            have hz3i : (0 : Int) < (cur.dn : Int) := by omega
            go_wp2
            exact bodyPost_ret (v := .tuple #[encStr [], .int .i64 4]) (by simp [results, Tryd.results9, go_sem]) rfl (ShP.of hb.out hN.out)
        · have hb := Lib.hid (hBAD.out (decide_eq_false fun h => hz2 (hz.out.2 ⟨⟨⟨h.2.2.1, h.2.2.2.1⟩, h.2.2.2.2.1⟩, h.2.2.2.2.2.1⟩)))
          go_wp2
          exact bodyPost_ret (v := .tuple #[encStr [], .int .i64 4]) (by simp [results, Tryd.results9, go_sem]) rfl (ShP.of hb.out hN.out)
      · have hb := Lib.hid (hBAD.out (decide_eq_false fun h => hz1 (by rw [hzz.out, h.1, h.2.1]; rfl)))
        have hz1b : (z == []) = false := by simpa using hz1
        go_wp2
        exact bodyPost_ret (v := .tuple #[encStr [], .int .i64 4]) (by simp [results, Tryd.results9, go_sem]) rfl (ShP.of hb.out hN.out)
/-- what the program's Show does -/
theorem Show_any (k : Int) (C : Cu) (f : Nat → Nat) (w : World) (hC : CuOk w f C) (hW : WordsIs w) (hf : ∀ i, f i < 256) (hT : Lib.TabIs Tryd.prog w "internal/strconv.uint64pow10" .u64 Lib.pow10Tab) :
    Calls Tryd.prog 9 #[.agg (cuA k C)] w (ShP f k C w) := by
  by_cases h1 : k < 1
  · exact show_lo k C f w hC hW hf hT h1
  · by_cases h2 : 19 < k
    · exact show_hi k C f w hC hW hf hT h1 h2
    · obtain ⟨i, hi⟩ : ∃ i : Nat, k = (i : Int) + 1 := ⟨(k - 1).toNat, by omega⟩
      subst hi
      exact show_in i (by omega) C f w hC hW hf hT
end Go.Proofs.YtaommipcdcncnaaDoor.desk
