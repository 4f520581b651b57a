/-
  The walk of the law DeskTells.
-/
import Derived.Test.YtaommipcdcncnaaDoorRows
import Derived.Test.YtaommipcdcncnaaDoorDeskOpen
namespace Go.Proofs.YtaommipcdcncnaaDoor.deskTells
open Go.ChangeShapes Go.WideShapes Go.ChangeAt Go.RowKit Go.Proofs.YtaommipcdcncnaaDoor.kit Go.Proofs.YtaommipcdcncnaaDoor.desk Go.Proofs.YtaommipcdcncnaaDoor
set_option linter.unusedVariables false
set_option maxRecDepth 100000
theorem told_new {w w' : World} {code size : Int} {A : Option Addr} {n : Nat} {f : Nat → Nat} {B : Option Addr} {e : Nat} {l : List Nm} (h : ToldOk w code size A n f B e l) (hn : New w w') : ToldOk w' code size A n f B e l :=
  ⟨h.c0, h.c1, h.s0, h.s1, h.dat.new hn, h.lt, h.n1, h.nam.new hn, h.le, h.e1, h.nil, h.sum, tab_new h.tab hn⟩
theorem core (code size : Int) (dn : Bool) (A : Option Addr) (n c : Nat) (f : Nat → Nat) (B : Option Addr) (e : Nat) (l : List Nm) (w : World) (hT : ToldOk w code size A n f B e l) :
    Calls Tryd.prog 3 #[.agg #[.int .i64 code, .bool dn, .int .i64 size, .slice A n c, .slice B l.length e]] w fun e w' => e = .returned (.bool true) ∧ New w w' := by
  obtain ⟨W1, hW1⟩ : ∃ W1, W1 = w.alloc (.cells #[.int .i64 code, .bool dn, .int .i64 size, .slice A n c, .slice B l.length e] 26) := ⟨_, rfl⟩
  have hN1 : Hid (New w W1) := by show New _ _; rw [hW1]; exact (New.refl w).alloc _
  have hb1 : Hid (Blk W1 w.heap.size 26 #[.int .i64 code, .bool dn, .int .i64 size, .slice A n c, .slice B l.length e]) := by show Blk _ _ _ _; rw [hW1]; exact Blk.fresh _ _ _
  have h1 := Lib.hid (Tell_any code size dn A n c f B e l W1 (told_new hT hN1.out))
  have h2 := Lib.hid (fun (w' : World) (hn : New W1 w') => Told_any code size dn A n c f B e l w' (told_new hT (hN1.out.next hn)))
  obtain ⟨x, hx⟩ : ∃ x, Hid (x = if badT code size l = true then [] else lineT code size dn f n l) := ⟨_, rfl⟩
  obtain ⟨cd, hcd⟩ : ∃ cd : Int, Hid (cd = if badT code size l = true then 4 else 0) := ⟨_, rfl⟩
  unfold TlP at h1 h2
  rw [← hx.out, ← hcd.out] at h1
  have h2 : Hid (∀ w', New W1 w' → Calls Tryd.prog 8 #[.agg #[.int .i64 code, .bool dn, .int .i64 size, .slice A n c, .slice B l.length e]] w' fun e w'' => e = .returned (.tuple #[encStr x, .int .i64 cd]) ∧ New w' w'') := fun w' hn => by
    rw [hx.out, hcd.out]
    exact h2.out w' hn
  generalize l.length = k at hW1 hb1 h1 h2 ⊢
  have x0 := hb1.out.cell 0
  have x1 := hb1.out.cell 1
  have x2 := hb1.out.cell 2
  have x3 := hb1.out.cell 3
  have x4 := hb1.out.cell 4
  simp at x0 x1 x2 x3 x4
  clear hT hx hcd
  go_enter Tryd.func3, Tryd.ntmps3
  go_upto_region 1 with fail
  rw [← hW1]
  clear hW1
  go_upto_region 2 with (go_at_call 7; refine h1.out.mono ?_; rintro e w2 ⟨rfl, hn2⟩; have hn2 := Lib.hid hn2)
  have hb2 := Lib.hid (hb1.out.new hn2.out)
  clear x0 x1 x2 x3 x4
  have x0 := hb2.out.cell 0
  have x1 := hb2.out.cell 1
  have x2 := hb2.out.cell 2
  have x3 := hb2.out.cell 3
  have x4 := hb2.out.cell 4
  simp at x0 x1 x2 x3 x4
  go_wp2_with (go_at_call 8; refine (h2.out _ hn2.out).mono ?_; rintro e w3 ⟨rfl, hn3⟩; have hn3 := Lib.hid hn3)
  exact bodyPost_ret (v := .bool true) (by simp [results, Tryd.results3, go_sem]) rfl ⟨rfl, (hN1.out.next hn2.out).next hn3.out⟩
theorem walk {H : Type} (enc : TypeId × Value → H) (W : World) {base : Nat} {v0 : Value} {d0 : DataW H} {p0 : List MemPlace} (ok0 : Value.okWide Tryd.prog W .any base 26 v0) (h0 : DataW.Trod enc Tryd.prog W 0 (fun _ => true) true 26 v0 d0 p0) (hk : Rows.uptoSmall H ([d0] ++ []) = true)
    (htab : Lib.TabIs Tryd.prog W "internal/strconv.uint64pow10" .u64 Lib.pow10Tab) :
    Calls Tryd.prog 3 #[v0] W fun e W' => e = .returned (.bool true) ∧ Below W.heap.size W W' := by
  have hb := bulks.bound hk
  simp only [List.append_nil, Rows.uptoBulkAll] at hb
  obtain ⟨code, size, dn, A, n, c, f, B, e, l, rfl, hT⟩ := open_told ok0 h0 (by omega) htab
  exact core code size dn A n c f B e l W hT
end Go.Proofs.YtaommipcdcncnaaDoor.deskTells
