/-
  A drive in memory: its struct, the plate, what waits.
-/
import Derived.Test.YthjjchlibbheaaaProg
import Derived.Test.YthjjchlibbheaaaDrivePlain
import Derived.Test.YthjjchlibbheaaaRowK
import Derived.Test.YthjjchlibbheaaaQuiet
import Derived.Test.YthjjchlibbheaaaQuietTail
import Derived.Handy
import Derived.BigRegion
import Derived.Deep.OwnRows
import Derived.Deep.AppendLies
import Derived.Deep.Onto
import Derived.OwnWalk
import Derived.Maps.AppendAt
import Derived.Great.Walk
import Derived.Lib.SliceRun
import Derived.Deep.RegionHeld3
namespace Go.Proofs.Ythjjchlibbheaaa.drive
open Go.ChangeShapes Go.WideShapes Go.ChangeAt Go.RowKit Go.Proofs.Ythjjchlibbheaaa.kit Go.Deep
set_option linter.unusedVariables false
theorem own_blk' {w : World} {base s n bb : Nat} {e t : TypeId} {v : Value} {xs : List Value} {cs : Array Value} (h : w.ownsRow base e s v n xs) (hb : Blk w bb t cs) (hne : e ≠ t) : v.ownBlock ≠ some bb := by
  intro he
  rcases h.2 with ⟨h0, _⟩ | ⟨g', cap, cur, h0, _, hg0, _⟩
  · rw [h0] at he; cases he
  · rw [h0] at he
    have : g' = bb := by simpa [Value.ownBlock] using he
    subst this
    unfold Blk at hb
    rw [hb] at hg0
    injection hg0 with hg0
    injection hg0 with _ hg0 _
    exact absurd hg0.symm hne
theorem own_apart' {w w' : World} {b b' : Nat} {e e' : TypeId} {s s' n n' : Nat} {v v' : Value} {xs xs' : List Value} (h : w.ownsRow b e s v n xs) (h' : w.ownsRow b' e' s' v' n' xs') (hne : e ≠ e') (hg : w.grownBy w' v'.ownBlock) : w'.ownsRow b e s v n xs := by
  refine h.kept hg ?_
  rcases h.2 with ⟨rfl, _⟩ | ⟨g, cap, cur, rfl, _, hg0, _⟩
  · exact .inl rfl
  · exact .inr fun he => own_blk' h' hg0 (Ne.symm hne) he.symm
/-- 128 bytes in memory -/
def Sd (w : World) (v : Value) (F : Nat → Nat) : Prop := ∃ b c, v = .slice (some ⟨b, 0, none⟩) 128 c ∧ 128 ≤ c ∧ c ≤ maxLen ∧ RowK 5 .u8 w b 128 F
def Dat (w : World) (v : Value) : Option (Nat → Nat) → Prop
  | none => v = .slice none 0 0
  | some F => Sd w v F
section
variable {w w' : World} {v : Value} {F : Nat → Nat} {o : Option (Nat → Nat)}
theorem Sd.new (h : Sd w v F) (hn : New w w') : Sd w' v F := by
  obtain ⟨b, c, h1, h2, h3, h4⟩ := h
  exact ⟨b, c, h1, h2, h3, h4.new hn⟩
theorem Sd.grown {row : Option Nat} (h : Sd w v F) (hg : w.grownBy w' row) (hr : ∀ b f, RowK 5 .u8 w b 128 f → row ≠ some b) : Sd w' v F := by
  obtain ⟨b, c, h1, h2, h3, h4⟩ := h
  exact ⟨b, c, h1, h2, h3, h4.grown hg (hr b F h4)⟩
theorem Dat.new (h : Dat w v o) (hn : New w w') : Dat w' v o := by
  cases o with
  | none => exact h
  | some F => exact Sd.new h hn
theorem Dat.grown {row : Option Nat} (h : Dat w v o) (hg : w.grownBy w' row) (hr : ∀ b f, RowK 5 .u8 w b 128 f → row ≠ some b) : Dat w' v o := by
  cases o with
  | none => exact h
  | some F => exact Sd.grown h hg hr
end
/-- what waits, as cells -/
def wsL (ws : List (Nat × (Nat → Nat))) (dv : Nat → Value) : List Value := (List.range ws.length).flatMap fun i => [.int .i64 (ws.getD i noP).1, dv i]
theorem flat2_len (f : Nat → Value × Value) : ∀ n, ((List.range n).flatMap fun i => [(f i).1, (f i).2]).length = n * 2
  | 0 => rfl
  | n + 1 => by rw [List.range_succ, List.flatMap_append, List.length_append, flat2_len f n]; simp; omega
theorem flat2_at (f : Nat → Value × Value) : ∀ n i, i < n → ((List.range n).flatMap fun i => [(f i).1, (f i).2])[i * 2]? = some (f i).1 ∧ ((List.range n).flatMap fun i => [(f i).1, (f i).2])[i * 2 + 1]? = some (f i).2
  | 0, i, h => absurd h (Nat.not_lt_zero i)
  | n + 1, i, h => by
    rw [List.range_succ, List.flatMap_append]
    have hl := flat2_len f n
    by_cases e : i < n
    · rw [List.getElem?_append_left (by omega), List.getElem?_append_left (by omega)]
      exact flat2_at f n i e
    · have : i = n := by omega
      subst this
      rw [List.getElem?_append_right (by omega), List.getElem?_append_right (by omega), hl]
      simp
theorem wsL_len (ws : List (Nat × (Nat → Nat))) (dv : Nat → Value) : (wsL ws dv).length = ws.length * 2 := flat2_len (fun i => (.int .i64 (ws.getD i noP).1, dv i)) ws.length
theorem wsL_at (ws : List (Nat × (Nat → Nat))) (dv : Nat → Value) {i : Nat} (h : i < ws.length) : (wsL ws dv)[i * 2]? = some (.int .i64 (ws.getD i noP).1) ∧ (wsL ws dv)[i * 2 + 1]? = some (dv i) :=
  flat2_at (fun i => (.int .i64 (ws.getD i noP).1, dv i)) ws.length i h
theorem wsL_more (ws : List (Nat × (Nat → Nat))) (dv : Nat → Value) (q : Nat × (Nat → Nat)) (v : Value) :
    wsL (ws ++ [q]) (fun i => if i = ws.length then v else dv i) = wsL ws dv ++ [.int .i64 q.1, v] := by
  unfold wsL
  rw [List.length_append, List.length_singleton, List.range_succ, List.flatMap_append]
  congr 1
  · rw [List.flatMap_def, List.flatMap_def]
    congr 1
    apply List.map_congr_left
    intro i hi
    have hi := List.mem_range.1 hi
    simp [List.getD, List.getElem?_append_left hi, show i ≠ ws.length by omega]
  · simp [List.getD]
/-- the plate: two cells a sector -/
def Plate (w : World) (g n : Nat) (pv : Nat → Value) (br : Nat → Bool) : Prop :=
  ∃ cs : Array Value, w.heap[g]? = some (.cells cs 156 (0, 0)) ∧ cs.size = n * 2 ∧ ∀ i, i < n → cs[i * 2]? = some (pv i) ∧ cs[i * 2 + 1]? = some (.bool (br i))
section
variable {w w' : World} {g n : Nat} {pv : Nat → Value} {br : Nat → Bool}
theorem Plate.lt (h : Plate w g n pv br) : g < w.heap.size := by obtain ⟨cs, h1, _⟩ := h; exact Blk.lt (t := 156) h1
theorem Plate.new (h : Plate w g n pv br) (hn : New w w') : Plate w' g n pv br := by
  obtain ⟨cs, h1, h2⟩ := h
  exact ⟨cs, Blk.new (t := 156) h1 hn, h2⟩
theorem Plate.grown (h : Plate w g n pv br) {row : Option Nat} (hg : w.grownBy w' row) (hr : row ≠ some g) : Plate w' g n pv br := by
  obtain ⟨cs, h1, h2⟩ := h
  exact ⟨cs, Blk.grown (t := 156) h1 hg hr, h2⟩
theorem Plate.cell (h : Plate w g n pv br) {i : Nat} (hi : i < n) : w.cell? ⟨g, i * 2, none⟩ = some (pv i) ∧ w.cell? ⟨g, i * 2 + 1, none⟩ = some (.bool (br i)) := by
  obtain ⟨cs, h1, h2, h3⟩ := h
  exact ⟨(Blk.cell (t := 156) h1 _).trans (h3 i hi).1, (Blk.cell (t := 156) h1 _).trans (h3 i hi).2⟩
theorem Plate.frozen (h : Plate w g n pv br) (i : Nat) : w.frozen? ⟨g, i, none⟩ = false := by
  obtain ⟨cs, h1, h2⟩ := h
  exact Blk.frozen (t := 156) h1 i
theorem Plate.set0 (h : Plate w g n pv br) {k : Nat} (hk : k < n) (v : Value) : Plate (w.setCell ⟨g, k * 2, none⟩ v) g n (fun i => if i = k then v else pv i) br := by
  obtain ⟨cs, h1, h2, h3⟩ := h
  refine ⟨cs.setIfInBounds (k * 2) v, Blk.put (t := 156) h1 (k * 2) v, by simpa using h2, fun i hi => ?_⟩
  obtain ⟨c0, c1⟩ := h3 i hi
  constructor
  · by_cases e : i = k
    · subst e
      simp [Array.getElem?_setIfInBounds, h2]
      omega
    · simp only [if_neg e]
      rw [Array.getElem?_setIfInBounds, if_neg (by omega)]
      exact c0
  · rw [Array.getElem?_setIfInBounds, if_neg (by omega)]
    exact c1
theorem Plate.set1 (h : Plate w g n pv br) {k : Nat} (hk : k < n) (v : Bool) : Plate (w.setCell ⟨g, k * 2 + 1, none⟩ (.bool v)) g n pv (fun i => if i = k then v else br i) := by
  obtain ⟨cs, h1, h2, h3⟩ := h
  refine ⟨cs.setIfInBounds (k * 2 + 1) (.bool v), Blk.put (t := 156) h1 (k * 2 + 1) (.bool v), by simpa using h2, fun i hi => ?_⟩
  obtain ⟨c0, c1⟩ := h3 i hi
  constructor
  · rw [Array.getElem?_setIfInBounds, if_neg (by omega)]
    exact c0
  · by_cases e : i = k
    · subst e
      simp [Array.getElem?_setIfInBounds, h2]
      omega
    · simp only [if_neg e]
      rw [Array.getElem?_setIfInBounds, if_neg (by omega)]
      exact c1
theorem Plate.congr (h : Plate w g n pv br) {pv' : Nat → Value} {br' : Nat → Bool} (h1 : ∀ i, i < n → pv i = pv' i) (h2 : ∀ i, i < n → br i = br' i) : Plate w g n pv' br' := by
  obtain ⟨cs, c1, c2, c3⟩ := h
  exact ⟨cs, c1, c2, fun i hi => by rw [← h1 i hi, ← h2 i hi]; exact c3 i hi⟩
theorem madeCells_at2 (a b : Value) (n i : Nat) (hi : i < n) : (madeCells #[a, b] (n * 2))[i * 2]? = some a ∧ (madeCells #[a, b] (n * 2))[i * 2 + 1]? = some b := by
  have h1 : i * 2 < n * 2 := by omega
  have h2 : i * 2 + 1 < n * 2 := by omega
  constructor
  · simp [madeCells, h1]
  · have : (i * 2 + 1) % 2 = 1 := by omega
    simp [madeCells, h2, this]
theorem Plate.made (w : World) (n : Nat) : Plate (w.alloc (.cells (madeCells #[.slice none 0 0, .bool false] (n * 2)) 156)) w.heap.size n (fun _ => .slice none 0 0) (fun _ => false) :=
  ⟨_, Blk.fresh w _ _, by rw [size_madeCells], fun i hi => madeCells_at2 _ _ n i hi⟩
end
/-- a drive: its struct in block d, the plate in block g -/
structure Dr (base d g n : Nat) (pl : Nat → Option (Nat → Nat)) (br : Nat → Bool) (ws : List (Nat × (Nat → Nat))) (dead : Bool) (pv : Nat → Value) (wv : Value) (dv : Nat → Value) (w : World) : Prop where
  bk : Blk w d 148 #[.slice (some ⟨g, 0, none⟩) n n, wv, .bool dead]
  pt : Plate w g n pv br
  pd : ∀ i, i < n → Dat w (pv i) (pl i)
  wo : w.ownsRow base 152 2 wv ws.length (wsL ws dv)
  wd : ∀ i, i < ws.length → Sd w (dv i) (ws.getD i noP).2
  wi : ∀ i, i < ws.length → (ws.getD i noP).1 < n
  lo : base ≤ d ∧ base ≤ g
section
variable {base d g n : Nat} {pl : Nat → Option (Nat → Nat)} {br : Nat → Bool} {ws : List (Nat × (Nat → Nat))} {dead : Bool} {pv : Nat → Value} {wv : Value} {dv : Nat → Value} {w w' w'' : World}
theorem Dr.new (h : Dr base d g n pl br ws dead pv wv dv w) (hn : New w w') : Dr base d g n pl br ws dead pv wv dv w' :=
  ⟨h.bk.new hn, h.pt.new hn, fun i hi => (h.pd i hi).new hn, own_new h.wo hn, fun i hi => (h.wd i hi).new hn, h.wi, h.lo⟩
theorem Plate.blk {g n : Nat} {pv : Nat → Value} {br : Nat → Bool} (h : Plate w g n pv br) : ∃ cs, Blk w g 156 cs := by
  obtain ⟨cs, hc, _⟩ := h
  exact ⟨cs, hc⟩
/-- a row of something else grows -/
theorem Dr.far (h : Dr base d g n pl br ws dead pv wv dv w) {b e z m : Nat} {v : Value} {xs : List Value} (ho : w.ownsRow b e z v m xs) (h1 : e ≠ 148) (h2 : e ≠ 156) (h3 : e ≠ 152) (h4 : e ≠ 5) (hg : w.grownBy w' v.ownBlock) :
    Dr base d g n pl br ws dead pv wv dv w' := by
  have hu : ∀ b f, RowK 5 .u8 w b 128 f → v.ownBlock ≠ some b := fun b f hr => hr.ne_own ho h4
  refine ⟨h.bk.grown hg (own_blk' ho h.bk h1), h.pt.grown hg ?_, fun i hi => (h.pd i hi).grown hg hu, own_apart' h.wo ho (Ne.symm h3) hg, fun i hi => (h.wd i hi).grown hg hu, h.wi, h.lo⟩
  obtain ⟨cs, hc⟩ := h.pt.blk
  exact own_blk' ho hc h2
theorem blk_ne {w : World} {a b : Nat} {t u : TypeId} {cs ds : Array Value} (h : Blk w a t cs) (h' : Blk w b u ds) (hne : t ≠ u) : a ≠ b := fun e => by
  subst e
  unfold Blk at h h'
  rw [h] at h'
  injection h' with h'
  injection h' with _ h' _
  exact hne h'
theorem RowK.ne_blk {w : World} {b m a : Nat} {t u : TypeId} {k : IntKind} {f : Nat → Nat} {cs : Array Value} (h : RowK t k w b m f) (h' : Blk w a u cs) (hne : t ≠ u) : a ≠ b := by
  obtain ⟨ds, hd, _⟩ := h
  exact fun e => blk_ne (t := t) hd h' hne e.symm
/-- the struct is written -/
theorem Dr.setD (h : Dr base d g n pl br ws dead pv wv dv w) {k : Nat} {u : Value} : (∀ b f, RowK 5 .u8 w b 128 f → (some d : Option Nat) ≠ some b) ∧ w.grownBy (w.setCell ⟨d, k, none⟩ u) (some d) ∧ d ≠ g ∧ wv.ownBlock ≠ some d := by
  refine ⟨fun b f hr e => RowK.ne_blk hr h.bk (by decide) (Option.some.inj e), grown_set w d k u, ?_, own_blk' h.wo h.bk (by decide)⟩
  obtain ⟨cs, hc⟩ := h.pt.blk
  exact blk_ne h.bk hc (by decide)
theorem Dr.dies (h : Dr base d g n pl br ws dead pv wv dv w) : Dr base d g n pl br ws true pv wv dv (w.setCell ⟨d, 2, none⟩ (.bool true)) := by
  obtain ⟨h1, h2, h3, h4⟩ := h.setD (k := 2) (u := .bool true)
  exact ⟨h.bk.put 2 (.bool true), h.pt.grown h2 (fun e => h3 (Option.some.inj e)), fun i hi => (h.pd i hi).grown h2 h1, h.wo.kept h2 (.inr h4), fun i hi => (h.wd i hi).grown h2 h1, h.wi, h.lo⟩
theorem Dr.idle (h : Dr base d g n pl br ws dead pv wv dv w) : Dr base d g n pl br [] dead pv (.slice none 0 0) dv (w.setCell ⟨d, 1, none⟩ (.slice none 0 0)) := by
  obtain ⟨h1, h2, h3, h4⟩ := h.setD (k := 1) (u := .slice none 0 0)
  exact ⟨h.bk.put 1 (.slice none 0 0), h.pt.grown h2 (fun e => h3 (Option.some.inj e)), fun i hi => (h.pd i hi).grown h2 h1, World.ownsRow_nil _ _ _ _, fun i hi => absurd hi (Nat.not_lt_zero i), fun i hi => absurd hi (Nat.not_lt_zero i), h.lo⟩
/-- the plate is written -/
theorem Dr.setG (h : Dr base d g n pl br ws dead pv wv dv w) {k : Nat} {u : Value} : (∀ b f, RowK 5 .u8 w b 128 f → (some g : Option Nat) ≠ some b) ∧ w.grownBy (w.setCell ⟨g, k, none⟩ u) (some g) ∧ g ≠ d ∧ wv.ownBlock ≠ some g := by
  obtain ⟨cs, hc⟩ := h.pt.blk
  exact ⟨fun b f hr e => RowK.ne_blk hr hc (by decide) (Option.some.inj e), grown_set w g k u, blk_ne hc h.bk (by decide), own_blk' h.wo hc (by decide)⟩
theorem Dr.breaks (h : Dr base d g n pl br ws dead pv wv dv w) {k : Nat} (hk : k < n) (b : Bool) : Dr base d g n pl (fun i => if i = k then b else br i) ws dead pv wv dv (w.setCell ⟨g, k * 2 + 1, none⟩ (.bool b)) := by
  obtain ⟨h1, h2, h3, h4⟩ := h.setG (k := k * 2 + 1) (u := .bool b)
  exact ⟨h.bk.grown h2 (fun e => h3 (Option.some.inj e)), h.pt.set1 hk b, fun i hi => (h.pd i hi).grown h2 h1, h.wo.kept h2 (.inr h4), fun i hi => (h.wd i hi).grown h2 h1, h.wi, h.lo⟩
theorem Dr.lays (h : Dr base d g n pl br ws dead pv wv dv w) {k : Nat} (hk : k < n) {v : Value} {F : Nat → Nat} (hv : Sd w v F) :
    Dr base d g n (fun i => if i = k then some F else pl i) br ws dead (fun i => if i = k then v else pv i) wv dv (w.setCell ⟨g, k * 2, none⟩ v) := by
  obtain ⟨h1, h2, h3, h4⟩ := h.setG (k := k * 2) (u := v)
  refine ⟨h.bk.grown h2 (fun e => h3 (Option.some.inj e)), h.pt.set0 hk v, fun i hi => ?_, h.wo.kept h2 (.inr h4), fun i hi => (h.wd i hi).grown h2 h1, h.wi, h.lo⟩
  by_cases e : i = k
  · subst e
    simp only [if_true]
    exact Sd.grown hv h2 h1
  · simp only [if_neg e]
    exact (h.pd i hi).grown h2 h1
/-- what is put comes onto the plate -/
theorem Dr.put (h : Dr base d g n pl br ws dead pv wv dv w) {k : Nat} (hk : k < n) {v : Value} {F : Nat → Nat} (hv : Sd w v F) :
    Dr base d g n (fun i => if i = k then some F else pl i) (fun i => if i = k then false else br i) ws dead (fun i => if i = k then v else pv i) wv dv ((w.setCell ⟨g, k * 2, none⟩ v).setCell ⟨g, k * 2 + 1, none⟩ (.bool false)) := (h.lays hk hv).breaks hk false
end
/-- 128 bytes that are copied -/
theorem infoU8 : (Try.prog.info? 5).map (fun i => (i.zero, i.size, i.bytes)) = some (some (.int .u8 0), 1, 1) := by kernel_rfl
set_option maxRecDepth 100000 in
theorem Clone_any (b off n c : Nat) (f : Nat → Nat) (w : World) (h : ∀ j, j < n → w.cell? ⟨b, off + j, none⟩ = some (.int .u8 (f j : Nat))) (hn : 0 < n) (hn2 : n ≤ 8192) (hb : b < w.heap.size) :
    Calls Try.prog 61 #[.slice (some ⟨b, off, none⟩) n c] w fun e w' => (∃ g cap, e = .returned (.slice (some ⟨g, 0, none⟩) n cap) ∧ n ≤ cap ∧ cap ≤ maxLen ∧ RowK 5 .u8 w' g n f ∧ w.heap.size ≤ g) ∧ New w w' := by
  obtain ⟨i0, hi0, hz0, hz1, hz2⟩ := info_parts infoU8
  have hsrc : Hid (∀ j u, (numL .u8 f n)[j]? = some u → (w.alloc (.cells #[] 5)).cell? ((⟨b, off, none⟩ : Addr).add j) = some u) := fun j u hu => by
    have := numL_src h j u hu
    rw [add_cell] at this ⊢
    exact (((New.refl w).alloc _).cell (p := ⟨b, off + j, none⟩) hb).trans this
  have hone := Lib.hid (numL_one .u8 f n)
  have hlen : Hid ((numL .u8 f n).length = n) := numL_len .u8 f n
  have hlit := World.ownsRow_lit (e := 5) (size := 1) w #[] 0 (Nat.le_refl _) (by unfold maxLen; omega) rfl
  have hnb := fun w => Lib.run_eql_slice_nil (P := Try.prog) w 79 5 (some ⟨b, off, none⟩) n c 0 0 Try.underlying79
  clear h
  go_enter Try.func61, Try.ntmps61
  go_wp2_with (at_builtin; refine wpList_append_own _ rfl _ _ 79 rfl w.heap.size 5 i0 _ 1 1 Try.underlying79 hi0 hz0 hz1 hz2 rfl (by decide) (Value.slice (some ⟨w.heap.size, 0, none⟩) 0 0) 0 [] rfl hlit ⟨b, off, none⟩ n c (numL .u8 f n) rfl (by rw [hlen.out]; omega) hsrc.out hone.out (by unfold maxLen; omega) (by omega) (by simp) ?_; intro v3 w3 hown3 hgrow hnil; obtain ⟨g3, c3, rfl, hg3a, hg3b⟩ := hown3.form (by omega))
  have hgA : (w.alloc (.cells #[] 5)).grownBy w3 (some w.heap.size) := hgrow
  have hN : New w w3 := (New.refl w).append' hgA (fun g hg => by cases hg; exact Nat.le_refl _)
  rw [List.nil_append, Nat.zero_add] at hown3
  have hr := RowK.of_own hown3
  obtain ⟨_, _, he, hle, hlm, _⟩ := own_open hown3
  cases he
  have hfin := Lib.hid (And.intro hr (And.intro hle (And.intro hlm hN)))
  clear hgrow hnil hown3 hr
  go_ret
  exact ⟨⟨g3, c3, rfl, hfin.out.2.1, hfin.out.2.2.1, hfin.out.1, hg3a⟩, hfin.out.2.2.2⟩
/-- .. from a block on -/
def SdN (lo : Nat) (w : World) (v : Value) (F : Nat → Nat) : Prop := ∃ b c, v = .slice (some ⟨b, 0, none⟩) 128 c ∧ 128 ≤ c ∧ c ≤ maxLen ∧ RowK 5 .u8 w b 128 F ∧ lo ≤ b
theorem SdN.sd {lo : Nat} {w : World} {v : Value} {F : Nat → Nat} (h : SdN lo w v F) : Sd w v F := by
  obtain ⟨b, c, h1, h2, h3, h4, _⟩ := h
  exact ⟨b, c, h1, h2, h3, h4⟩
theorem SdN.grown {lo : Nat} {w w' : World} {v : Value} {F : Nat → Nat} {row : Option Nat} (h : SdN lo w v F) (hg : w.grownBy w' row) (hr : ∀ r, row = some r → r < lo) : SdN lo w' v F := by
  obtain ⟨b, c, h1, h2, h3, h4, h5⟩ := h
  exact ⟨b, c, h1, h2, h3, h4.grown hg fun e => by have := hr _ e; omega, h5⟩
theorem Clone_sd (v : Value) (F : Nat → Nat) (w : World) (h : Sd w v F) : Calls Try.prog 61 #[v] w fun e w' => ∃ v', e = .returned v' ∧ SdN w.heap.size w' v' F ∧ New w w' := by
  obtain ⟨b, c, rfl, h1, h2, h3⟩ := h
  refine (Clone_any b 0 128 c F w (fun j hj => by rw [Nat.zero_add]; exact h3.cell hj) (by omega) (by omega) h3.lt).mono ?_
  rintro e w' ⟨⟨g, cap, rfl, k1, k2, k3, k4⟩, hn⟩
  exact ⟨_, rfl, ⟨g, cap, rfl, k1, k2, k3, k4⟩, hn⟩
end Go.Proofs.Ythjjchlibbheaaa.drive
