/-
  Contract: sort.Slice on edges, by their places.
-/
import Derived.Test.YthkgcbjfgglciaaSpanEdges
import Derived.Test.YthkgcbjfgglciaaSpanShelf
import Derived.Shelf.GgSortFunc.Tiny
import Derived.Sort.OwnSortedInts
namespace Go.Proofs.Ythkgcbjfgglciaa.spans
open Go.ChangeShapes Go.WideShapes Go.ChangeAt Go.RowKit Go.Proofs.Ythkgcbjfgglciaa.kit Go.Proofs.Ythkgcbjfgglciaa.span Go.Deep Go.Shelf Go.Lib Go.Sort
set_option linter.unusedVariables false

/-- an edge's two cells; by place -/
def encP (p : Int × Int) : List Value := [.int .i64 p.1, .int .i64 p.2]
def ltP (a b : Int × Int) : Bool := decide (a.1 < b.1)
theorem swoP : SWO ltP where
  irrefl := fun x => by simp [ltP]
  trans := fun x y z h1 h2 => by simp [ltP] at *; omega
  ntrans := fun x y z h1 h2 => by simp [ltP] at *; omega
theorem less_any (blk c Bs size : Nat) (W : World) (G : Nat → Int) (hs : W.cell? ⟨Bs, 0, none⟩ = some (.slice (some ⟨blk, 0, none⟩) size c))
    (hc : ∀ t, t < size → W.cell? ⟨blk, 0 + t * 2, none⟩ = some (.int .i64 (G t))) (i j : Nat) (hi : i < size) (hj : j < size) (hsz : size ≤ 1000) :
    Calls Try.prog 67 #[.int .i64 i, .int .i64 j, .pointer (some ⟨Bs, 0, none⟩)] W fun e w' => e = .returned (.bool (decide (G i < G j))) ∧ ∃ q, w' = W.drewN q := by
  have ci := hc i hi
  have cj := hc j hj
  rw [Nat.zero_add] at ci cj
  have hc0 := Lib.hid hc
  clear hc
  go_enter Try.func67, Try.ntmps67
  go_wp2
  go_quiet (fail)
  go_wp2
  go_ret
  exact ⟨rfl, nq, rfl⟩
theorem infoT : (Try.prog.info? 60).map (·.desc) = some (.slice 84) := by kernel_rfl
theorem infoE : (Try.prog.info? 84).map (fun i => (i.size, i.hasPointers, i.bytes)) = some (2, false, 16) := by kernel_rfl
theorem swk {ie : TypeInfo} (h : ie.hasPointers = false) (hb : ie.bytes = 16) (n : Nat) (h2 : 2 ≤ n) : Lib.swapperK n ie 25 = 9 := by
  have c : (n == 0) = false := by simp; omega
  have d : (n == 1) = false := by simp; omega
  simp [Lib.swapperK, h, hb, c, d]
theorem sort_any (blk c Bs : Nat) (d : Array (Int × Int)) (h2 : 2 ≤ d.size) (hsz : d.size ≤ 1000) (w : World) (hH : HoldsK encP 2 w blk 0 d) (hblk : blk < w.heap.size)
    (hBs : w.cell? ⟨Bs, 0, none⟩ = some (.slice (some ⟨blk, 0, none⟩) d.size c)) (hB1 : Bs < w.heap.size) (hB2 : Bs ≠ blk) :
    Calls Try.prog 66 #[.iface 60 (.slice (some ⟨blk, 0, none⟩) d.size c), .func (.func 67) #[] #[.pointer (some ⟨Bs, 0, none⟩)]] w fun e w' =>
      e = .returned (.tuple #[]) ∧ ∃ d' n os, PermIn 0 d.size d d' ∧ SortedIn ltP 0 d.size d' ∧ w' = grow (putRowK encP 2 (Sort.ahead w n) blk 0 d') os := by
  obtain ⟨it, hit, hdt⟩ := Option.map_eq_some_iff.1 infoT
  obtain ⟨ie, hie, hee⟩ := Option.map_eq_some_iff.1 infoE
  simp only [Prod.mk.injEq] at hee
  obtain ⟨he1, he2, he3⟩ := hee
  have hless : LessReadsK Try.prog 67 #[.pointer (some ⟨Bs, 0, none⟩)] encP 2 ltP blk 0 d.size w := by
    intro m os dk hs i j hi hj
    have e : sortWorldK encP 2 w blk 0 m dk os = putRowK encP 2 (grow (Sort.ahead w m) os) blk 0 dk := by
      unfold sortWorldK; rw [putRowK_grow _ _ (Sort.ahead w m) _ blk 0 _ hblk]
    have hHg : HoldsK encP 2 (grow (Sort.ahead w m) os) blk 0 d := holdsK_grow _ _ _ _ blk 0 d hblk (holdsK_ahead _ _ _ _ _ _ _ hH)
    refine less_any blk c Bs d.size _ (fun t => dk[t]!.1) ?_ (fun t ht => ?_) i j hi hj (by omega)
    · rw [e, cell?_putRowK_other _ _ _ blk 0 dk _ (by exact hB2), cell?_grow _ _ _ (by exact hB1)]; exact hBs
    · rw [e]; exact ((holdsK_putRowK _ _ _ blk 0 d dk hHg hs).cell (i := t) (c := 0) (by omega) (by omega)).1
  exact Any.sort_Slice_cells_sorted laysGg6 60 84 it ie hit hdt (by kernel_rfl) hie 25 (fun _ => by kernel_rfl) encP 2 (fun _ => rfl) he1 (fun _ => by kernel_rfl)
    (fun x v hv => by simp [encP] at hv; rcases hv with rfl | rfl <;> rfl) ltP swoP 67 _
    (enters_of Try.func67 (by kernel_rfl) rfl) blk 0 c d h2 (by omega) 88 (by rw [swk he2 he3 _ h2]; kernel_rfl) false
    (fun args W => run_callFunc_extern Try.func88 (by kernel_rfl) (by kernel_rfl) (by kernel_rfl) (e := Extern.ReflectliteSwapper.swap false) (by kernel_rfl) args W) w hless hH hblk
theorem sort_none (p : Option Addr) (c : Nat) (lf : Fn) (la lb : Array Value) (w : World) :
    Calls Try.prog 66 #[.iface 60 (.slice p 0 c), .func lf la lb] w fun e w' => e = .returned (.tuple #[]) ∧ New w w' := by
  obtain ⟨it, hit, hdt⟩ := Option.map_eq_some_iff.1 infoT
  obtain ⟨ie, hie, hee⟩ := Option.map_eq_some_iff.1 infoE
  have h := Any.sort_Slice_tiny laysGg6 60 84 it ie hit hdt (by kernel_rfl) hie 25 (fun _ => by kernel_rfl) p 0 c (by omega) 80 (by
    rw [show Lib.swapperK 0 ie 25 = 1 by simp [Lib.swapperK]]; kernel_rfl) lf la lb w
  refine h.mono ?_
  rintro e w' ⟨rfl, os, rfl⟩
  exact ⟨rfl, rfl, rfl, rfl, by simp, fun k hk => heap_grow_old _ _ hk⟩
theorem own_frozen {w : World} {base : Nat} {e : TypeId} {size : Nat} {g n c : Nat} {m : Nat} {xs : List Value} (h : w.ownsRow base e size (.slice (some ⟨g, 0, none⟩) n c) m xs) (i : Nat) : w.frozen? ⟨g, i, none⟩ = false := by
  rcases h.2 with ⟨h0, _⟩ | ⟨g', cap, cur, hv, _, hg, _⟩
  · cases h0
  · cases hv
    simp [World.frozen?, hg]
theorem grownBy_sort {w : World} {g n : Nat} {os : Array Obj} (d : Array (Int × Int)) : w.grownBy (grow (putRowK encP 2 (Sort.ahead w n) g 0 d) os) (some g) := by
  refine ⟨rfl, rfl, rfl, by simp [putRowK], fun k hk hne => ?_⟩
  rw [heap_grow_old _ _ (by simpa [putRowK] using hk)]
  have : g ≠ k := fun e => hne (by rw [e])
  simp [putRowK, putRow, mapBlock, Sort.ahead, Array.getElem?_modify, this]
/-- an own row of edges, sorted -/
theorem sort_edges (E : List (Int × Int)) (g c Bs base : Nat) (w : World) (h2 : 2 ≤ E.length) (hsz : E.length ≤ 1000) (hown : w.ownsRow base 84 2 (.slice (some ⟨g, 0, none⟩) E.length c) E.length (encE E))
    (hBs : w.cell? ⟨Bs, 0, none⟩ = some (.slice (some ⟨g, 0, none⟩) E.length c)) (hB1 : Bs < w.heap.size) (hB2 : Bs ≠ g) :
    Calls Try.prog 66 #[.iface 60 (.slice (some ⟨g, 0, none⟩) E.length c), .func (.func 67) #[] #[.pointer (some ⟨Bs, 0, none⟩)]] w fun e w' =>
      e = .returned (.tuple #[]) ∧ (∃ D : List (Int × Int), D.Perm E ∧ (∀ i j (hi : i < D.length) (hj : j < D.length), i ≤ j → D[i].1 ≤ D[j].1) ∧
        ∀ i (hi : i < D.length), w'.cell? ⟨g, i * 2, none⟩ = some (.int .i64 D[i].1) ∧ w'.cell? ⟨g, i * 2 + 1, none⟩ = some (.int .i64 D[i].2)) ∧ w.grownBy w' (some g) := by
  have hgl : g < w.heap.size := (hown.lt g rfl).2
  have hcells : ∀ j u, (encE E)[j]? = some u → w.cell? ⟨g, j, none⟩ = some u := fun j u hu => by
    have := hown.cells (g := g) rfl j u hu
    rw [add_cell, Nat.zero_add] at this
    exact this
  have hH : HoldsK encP 2 w g 0 E.toArray := fun j hj => by
    have hj2 : j < E.length * 2 := by simpa using hj
    refine ⟨?_, own_frozen hown _⟩
    rw [Nat.zero_add, get_flatK encP 2 E.toArray j (by simpa using hj2)]
    have hi : j / 2 < E.length := by omega
    have e1 : E.toArray[j / 2]! = E[j / 2] := by simp [hi]
    rw [e1]
    have h3 := encE_at E (j / 2) hi
    rcases Nat.mod_two_eq_zero_or_one j with h0 | h1
    · rw [h0]
      have h4 := hcells _ _ h3.1
      rw [show 2 * (j / 2) = j by omega] at h4
      exact h4
    · rw [h1]
      have h4 := hcells _ _ h3.2
      rw [show 2 * (j / 2) + 1 = j by omega] at h4
      exact h4
  have h := sort_any g c Bs E.toArray (by simpa using h2) (by simpa using hsz) w hH hgl (by simpa using hBs) hB1 hB2
  have es : E.toArray.size = E.length := by simp
  rw [es] at h
  refine h.mono ?_
  rintro e w' ⟨rfl, d', n, os, hp, hso, rfl⟩
  obtain ⟨hp1, _, hp3⟩ := hp
  rw [es] at hp1
  have hext : ∀ (a : Array (Int × Int)), a.size = E.length → a.extract 0 E.length = a := fun a ha => by rw [← ha]; simp
  rw [hext d' hp1, hext E.toArray es] at hp3
  have hH2 : HoldsK encP 2 (grow (putRowK encP 2 (Sort.ahead w n) g 0 d') os) g 0 d' :=
    holdsK_grow _ _ _ _ g 0 d' (by simpa [putRowK, Sort.ahead] using hgl) (holdsK_putRowK _ _ _ g 0 E.toArray d' (holdsK_ahead _ _ _ _ _ _ _ hH) (by rw [hp1, es]))
  refine ⟨rfl, ⟨d'.toList, by simpa using hp3, fun i j hi hj hij => ?_, fun i hi => ?_⟩, grownBy_sort d'⟩
  · rcases Nat.lt_or_ge i j with hlt | hge
    · have := hso i j (Nat.zero_le _) hlt (by rw [← hp1]; simpa using hj)
      have hi' : i < d'.size := by simpa using hi
      have hj' : j < d'.size := by simpa using hj
      simp [ltP, hi', hj'] at this
      simpa using this
    · have : i = j := by omega
      subst this
      exact Int.le_refl _
  · have hi' : i < d'.size := by simpa using hi
    have c0 := (hH2.cell (i := i) (c := 0) hi' (by omega)).1
    have c1 := (hH2.cell (i := i) (c := 1) hi' (by omega)).1
    have e1 : d'[i]! = d'[i] := by simp [hi']
    rw [e1] at c0 c1
    rw [Nat.zero_add] at c0 c1
    exact ⟨c0, c1⟩
end Go.Proofs.Ythkgcbjfgglciaa.spans
