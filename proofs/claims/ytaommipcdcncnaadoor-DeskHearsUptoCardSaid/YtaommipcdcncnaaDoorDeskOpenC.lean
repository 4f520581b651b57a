/-
  Arguments of the type api.Command, with what the bound of the second form's statement gives.
-/
import Derived.Test.YtaommipcdcncnaaDoorDeskOpen
import Derived.Test.YtaommipcdcncnaaDoorDeskCmd
namespace Go.Proofs.YtaommipcdcncnaaDoor.desk
open Go.ChangeShapes Go.WideShapes Go.ChangeAt Go.RowKit Go.Proofs.YtaommipcdcncnaaDoor.kit Go.Joins Go.Deep Go.Proofs.YtaommipcdcncnaaDoor
set_option linter.unusedVariables false
theorem array8 {α : Type} {cs : Array α} (h : cs.size = 8) : ∃ c0 c1 c2 c3 c4 c5 c6 c7, cs = #[c0, c1, c2, c3, c4, c5, c6, c7] := by
  obtain ⟨l⟩ := cs
  match l, h with
  | [a, b, c, d, e, f, g, i], _ => exact ⟨a, b, c, d, e, f, g, i, rfl⟩
theorem list8 {α : Type} {l : List α} (h : l.length = 8) : ∃ a0 a1 a2 a3 a4 a5 a6 a7, l = [a0, a1, a2, a3, a4, a5, a6, a7] := by
  match l, h with
  | [a0, a1, a2, a3, a4, a5, a6, a7], _ => exact ⟨_, _, _, _, _, _, _, _, rfl⟩
theorem cellsCmd : Tryd.prog.cellsOf 31 = 8 := by kernel_rfl
theorem string_of {H : Type} {enc : TypeId × Value → H} {w : World} {fuel : Nat} {v : Value} {y : DataW H × List MemPlace} (h : DataW.trod enc Tryd.prog w 0 (fun _ => true) true fuel 9 [v] = some y) :
    ∃ s : Tx, v = encStr s ∧ s.length + 1 = Rows.uptoBulk y.1 := by
  obtain ⟨b, hb, rfl, _⟩ := DataW.trod_string Tryd.underlying9 h
  simp at hb
  subst hb
  exact ⟨b.data.toList, by simp [encStr], (bulks.string_eq _).symm⟩
set_option maxRecDepth 100000 in
theorem open_cmd {H : Type} {enc : TypeId × Value → H} {W : World} {base : Nat} {v : Value} {d : DataW H} {p : List MemPlace} (ok : Value.okWide Tryd.prog W .any base 31 v)
    (h : DataW.Trod enc Tryd.prog W 0 (fun _ => true) true 31 v d p) (hk : Rows.uptoBulk d ≤ 1048576) :
    ∃ (k : Int) (C : Cu) (f : Nat → Nat), v = .agg (cuA k C) ∧ CuOk W f C ∧ (∀ i, f i < 256) := by
  obtain ⟨cs, rfl, hsz⟩ := okWide_struct Tryd.underlying31 ok
  obtain ⟨a0, a1, a2, a3, a4, a5, a6, a7, rfl⟩ := array8 (hsz.trans cellsCmd)
  obtain ⟨fuel, hf⟩ := h
  obtain ⟨ys, n', hn', hy, hlen, hyl, hfd⟩ := DataW.trod_struct Tryd.underlying31 hf
  obtain ⟨y0, y1, y2, y3, y4, y5, y6, y7, rfl⟩ := list8 hyl
  have ci : Tryd.prog.cellsOf 3 = 1 := by kernel_rfl
  have cs1 : Tryd.prog.cellsOf 9 = 1 := by kernel_rfl
  have cby : Tryd.prog.cellsOf 23 = 1 := by kernel_rfl
  have h0 := hfd 0 _ rfl
  have h1 := hfd 1 _ rfl
  have h2 := hfd 2 _ rfl
  have h3 := hfd 3 _ rfl
  have h4 := hfd 4 _ rfl
  have h5 := hfd 5 _ rfl
  have h6 := hfd 6 _ rfl
  have h7 := hfd 7 _ rfl
  simp [Value.cells, ci, cs1, cby] at h0 h1 h2 h3 h4 h5 h6 h7
  obtain ⟨k, rfl, w0⟩ := int_of Tryd.underlying3 h0
  obtain ⟨nm, rfl, l1⟩ := string_of h1
  obtain ⟨ot, rfl, l2⟩ := string_of h2
  obtain ⟨off, rfl, w3⟩ := int_of Tryd.underlying3 h3
  obtain ⟨cnt, rfl, w4⟩ := int_of Tryd.underlying3 h4
  obtain ⟨drv, rfl, w5⟩ := int_of Tryd.underlying3 h5
  obtain ⟨kp, rfl, w6⟩ := int_of Tryd.underlying3 h6
  obtain ⟨A, n, c, f, rfl, hd, hlt, hn⟩ := bytes_of h7
  have hd0 : d = .agg [y0.1, y1.1, y2.1, y3.1, y4.1, y5.1, y6.1, y7.1] := congrArg Prod.fst hy
  rw [hd0] at hk
  simp only [Rows.uptoBulk, Rows.uptoBulkAll] at hk
  exact ⟨k, ⟨nm, ot, off, cnt, drv, kp, A, n, c⟩, f, rfl, ⟨by show nm.length ≤ _; omega, by show ot.length ≤ _; omega, (bounds_i64 w3).1, (bounds_i64 w3).2, (bounds_i64 w4).1, (bounds_i64 w4).2, (bounds_i64 w5).1, (bounds_i64 w5).2, (bounds_i64 w6).1, (bounds_i64 w6).2, hd, by show n ≤ _; omega⟩, hlt⟩
end Go.Proofs.YtaommipcdcncnaaDoor.desk
