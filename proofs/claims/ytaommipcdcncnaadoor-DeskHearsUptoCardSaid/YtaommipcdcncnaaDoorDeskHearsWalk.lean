/-
  The walk of the law DeskHears.
-/
import Derived.Test.YtaommipcdcncnaaDoorRows
import Derived.Test.YtaommipcdcncnaaDoorDeskHear
import Derived.Test.YtaommipcdcncnaaDoorDeskHeard
import Derived.Test.YtaommipcdcncnaaDoorDeskOpenC
namespace Go.Proofs.YtaommipcdcncnaaDoor.deskHears
open Go.ChangeShapes Go.WideShapes Go.ChangeAt Go.RowKit Go.Proofs.YtaommipcdcncnaaDoor.kit Go.Proofs.YtaommipcdcncnaaDoor.desk Go.Proofs.YtaommipcdcncnaaDoor
set_option linter.unusedVariables false
set_option maxRecDepth 100000
theorem core (line : Tx) (hl : line.length ≤ 1048576) (w : World) (hM : MaxIs w) (hE : ErrsAre w) (hT : Lib.TabIs Tryd.prog w "internal/strconv.uint64pow10" .u64 Lib.pow10Tab) :
    Calls Tryd.prog 6 #[encStr line] w fun e w' => e = .returned (.bool true) ∧ New w w' := by
  have h1 := Lib.hid (Hear_any line hl w hM hE hT)
  have h2 := Lib.hid (fun w' => Heard_any line hl w')
  obtain ⟨v, hv⟩ : ∃ v, Hid (v = encStr line) := ⟨_, rfl⟩
  rw [← hv.out] at h1 ⊢
  have h2 : Hid (∀ w', Calls Tryd.prog 15 #[v] w' (HrR line w')) := fun w' => by rw [hv.out]; exact h2.out w'
  clear hM hE hT hv
  go_enter Tryd.func6, Tryd.ntmps6
  go_upto_region 2 with (first
    | (go_at_call 14; refine h1.out.mono ?_; rintro e w2 ⟨code, size, dn, A, n, c, f, B, e', l, cd, rfl, hP, hd, hn2⟩
       have hP := Lib.hid hP
       have hd := Lib.hid hd
       have hn2 := Lib.hid hn2
       obtain ⟨k, hk⟩ : ∃ k, Hid (k = l.length) := ⟨_, rfl⟩
       rw [← hk.out]
       dsimp only [tdA]))
  obtain ⟨W3, hW3⟩ : ∃ W3, W3 = w2.alloc (.cells #[.int .i64 code, .bool dn, .int .i64 size, .slice A n c, .slice B k e'] 26) := ⟨_, rfl⟩
  have hb3 : Hid (Blk W3 w2.heap.size 26 #[.int .i64 code, .bool dn, .int .i64 size, .slice A n c, .slice B k e']) := by show Blk _ _ _ _; rw [hW3]; exact Blk.fresh _ _ _
  have hn3 : Hid (New w2 W3) := by show New _ _; rw [hW3]; exact (New.refl w2).alloc _
  rw [← hW3]
  clear hW3
  go_upto_region 3 with (first
    | (go_at_call 15; refine (h2.out _).mono ?_; rintro e w4 ⟨code', size', dn', A', n', c', f', B', e'', l', cd', rfl, hP', hd', hn4⟩
       have hP' := Lib.hid hP'
       have hd' := Lib.hid hd'
       have hn4 := Lib.hid hn4
       obtain ⟨k', hk'⟩ : ∃ k, Hid (k = l'.length) := ⟨_, rfl⟩
       rw [← hk'.out]
       dsimp only [tdA]))
  obtain ⟨W5, hW5⟩ : ∃ W5, W5 = w4.alloc (.cells #[.int .i64 code', .bool dn', .int .i64 size', .slice A' n' c', .slice B' k' e''] 26) := ⟨_, rfl⟩
  have hb5 : Hid (Blk W5 w4.heap.size 26 #[.int .i64 code', .bool dn', .int .i64 size', .slice A' n' c', .slice B' k' e'']) := by show Blk _ _ _ _; rw [hW5]; exact Blk.fresh _ _ _
  have hn5 : Hid (New w4 W5) := by show New _ _; rw [hW5]; exact (New.refl w4).alloc _
  rw [← hW5]
  clear hW5
  obtain ⟨e1, e2, e3, e4, e5, e6, e7⟩ := hP.out.one hP'.out
  have e6 := Lib.hid e6
  subst e1 e2 e3 e4 e5 e7
  have hkk : k' = k := hk'.out.trans hk.out.symm
  subst hkk
  have hn35 := Lib.hid (hn4.out.next hn5.out)
  have hb35 := Lib.hid (hb3.out.new hn35.out)
  have hs : Hid (Calls Tryd.prog 16 #[.agg #[.int .i64 code, .bool dn, .int .i64 size, .slice A n c, .slice B k' e'], .agg #[.int .i64 code, .bool dn, .int .i64 size, .slice A' n c', .slice B' k' e'']] W5 fun e w' => e = .returned (.bool true) ∧ New W5 w') := by
    rw [hk.out]
    exact sameTold_eq code size dn A A' n c c' f f' B B' e' e'' l W5 (hd.out.1.new (hn3.out.next hn35.out)) (hd'.out.1.new hn5.out) e6.out (hd.out.2.new (hn3.out.next hn35.out)) (hd'.out.2.new hn5.out)
  have x0 := hb35.out.cell 0
  have x1 := hb35.out.cell 1
  have x2 := hb35.out.cell 2
  have x3 := hb35.out.cell 3
  have x4 := hb35.out.cell 4
  have y0 := hb5.out.cell 0
  have y1 := hb5.out.cell 1
  have y2 := hb5.out.cell 2
  have y3 := hb5.out.cell 3
  have y4 := hb5.out.cell 4
  simp at x0 x1 x2 x3 x4 y0 y1 y2 y3 y4
  go_wp2_with (go_at_call 16; refine hs.out.mono ?_; rintro e w6 ⟨rfl, hn6⟩; have hn6 := Lib.hid hn6)
  exact bodyPost_ret (v := .bool true) (by simp [results, Tryd.results6, go_sem]) rfl ⟨rfl, ((hn2.out.next hn3.out).next hn35.out).next hn6.out⟩
theorem walk {H : Type} (enc : TypeId × Value → H) (W : World) {base : Nat} {v0 : Value} {d0 : DataW H} {p0 : List MemPlace} (ok0 : Value.okWide Tryd.prog W .any base 9 v0) (h0 : DataW.Trod enc Tryd.prog W 0 (fun _ => true) true 9 v0 d0 p0) (hk : Rows.uptoSmall H ([d0] ++ []) = true)
    (htab : Lib.TabIs Tryd.prog W "internal/strconv.uint64pow10" .u64 Lib.pow10Tab) (hmax : MaxIs W) (herrs : ErrsAre W) :
    Calls Tryd.prog 6 #[v0] W fun e W' => e = .returned (.bool true) ∧ Below W.heap.size W W' := by
  have hb := bulks.bound hk
  simp only [List.append_nil, Rows.uptoBulkAll] at hb
  obtain ⟨s, rfl⟩ := okWide_string Tryd.underlying9 ok0
  obtain ⟨fuel, hf⟩ := h0
  simp [Value.cells] at hf
  obtain ⟨line, hv, hl⟩ := string_of hf
  dsimp only at hl
  rw [hv]
  exact core line (by omega) W hmax herrs htab
end Go.Proofs.YtaommipcdcncnaaDoor.deskHears
