/-
  The table of the commands' words, as the row lists it: its cells.
-/
import Derived.Test.YtaommipcdcncnaaDoorRows
import Derived.Test.YtaommipcdcncnaaDoorDeskTell
import Derived.Lib.LaidTab
import Derived.OpenShut
namespace Go.Proofs.YtaommipcdcncnaaDoor.desk
open Go.ChangeShapes Go.WideShapes Go.ChangeAt Go.RowKit Go.Proofs.YtaommipcdcncnaaDoor.kit Go.Deep Go.Proofs.YtaommipcdcncnaaDoor
set_option linter.unusedVariables false
set_option maxRecDepth 100000
def wordsL : List (Tx × Tx) := [([99, 114, 101, 97, 116, 101], [110]), ([115, 116, 111, 114, 101], [110, 102, 120]), ([102, 101, 116, 99, 104], [110, 102, 99]), ([99, 117, 116], [110, 99]), ([114, 101, 109, 111, 118, 101], [110]), ([108, 105, 115, 116], []), ([115, 110, 97, 112], [111]), ([108, 111, 111, 107], [111, 110, 102, 99]), ([98, 97, 99, 107], [111]), ([117, 110, 115, 110, 97, 112], [111]), ([115, 110, 97, 112, 115], []), ([115, 121, 110, 99], []), ([112, 111, 119, 101, 114], [107]), ([112, 111, 119, 101, 114, 115, 121, 110, 99], [99, 107]), ([98, 114, 101, 97, 107], [100, 102]), ([102, 97, 105, 108], [100]), ([114, 101, 110, 101, 119], [100]), ([104, 101, 97, 108], []), ([112, 111, 119, 101, 114, 104, 101, 97, 108], [99, 107])]
def wordK (i : Nat) : Tx × Tx := wordsL.getD i ([], [])
theorem wordsL_len : wordsL.length = 19 := rfl
def WordsIs (w : World) : Prop := ∀ i, i < 19 → w.cell? ⟨0, i * 2, none⟩ = some (encStr (wordK i).1) ∧ w.cell? ⟨0, i * 2 + 1, none⟩ = some (encStr (wordK i).2)
theorem gWords : Tryd.prog.globalNamed "quickset/desk.words" = some 0 := by kernel_rfl
theorem gWordsType : (Tryd.prog.globals[0]?).map (·.type) = some 46 := by kernel_rfl
theorem cells46 : Tryd.prog.cellsOf 46 = 38 := by kernel_rfl
theorem cells45 : Tryd.prog.cellsOf 45 = 2 := by kernel_rfl
theorem cells9 : Tryd.prog.cellsOf 9 = 1 := by kernel_rfl
theorem dataWords : (Rows.laid_quickset_desk_words : DataW Unit) = .agg (wordsL.map fun q => .agg [.lit (.string q.1), .lit (.string q.2)]) := by rfl
theorem str_cell {H : Type} {enc : TypeId × Value → H} {w : World} {held : Bool} {fuel : Nat} {cs : List Value} {y : DataW H × List MemPlace} {s : Tx} (h : DataW.trod enc Tryd.prog w 0 (fun _ => true) held fuel 9 cs = some y) (hy : y.1 = .lit (.string s)) : cs = [encStr s] := by
  obtain ⟨b, rfl, rfl, _⟩ := DataW.trod_string Tryd.underlying9 h
  simp at hy
  subst hy
  simp [encStr]
theorem words_of {W : World} {rest : List (String × DataW Unit)} (h : laidMet Tryd.prog (("quickset/desk.words", Rows.laid_quickset_desk_words) :: rest) W) : WordsIs W := by
  obtain ⟨ps, ⟨g', t', cs, fuel, p, q, hg', ht', hvar, hd, _, _⟩, _⟩ := h
  obtain rfl := Option.some.inj (gWords.symm.trans hg')
  obtain rfl := Option.some.inj (gWordsType.symm.trans ht')
  rw [dataWords] at hd
  obtain ⟨xs, m, _, hx, hcl, hxl, hxs⟩ := DataW.trod_array Tryd.underlying46 hd
  have hx1 : xs.map (·.1) = wordsL.map fun q => DataW.agg [.lit (.string q.1), .lit (.string q.2)] := by
    have := congrArg Prod.fst hx
    injection this with this
    exact this.symm
  intro i hi
  have hi2 : i < xs.length := by omega
  have hw : i < wordsL.length := by rw [wordsL_len]; exact hi
  have hxi := hxs i hi
  rw [cells45, List.getElem?_eq_getElem hi2] at hxi
  have hy : (xs[i]).1 = .agg [.lit (.string (wordK i).1), .lit (.string (wordK i).2)] := by
    have h1 := congrArg (fun l => l[i]?) hx1
    simp only [List.getElem?_map, List.getElem?_eq_getElem hi2, List.getElem?_eq_getElem hw, Option.map_some] at h1
    have h2 := Option.some.inj h1
    rw [h2]
    unfold wordK
    rw [List.getD, List.getElem?_eq_getElem hw, Option.getD_some]
  obtain ⟨zs, m', _, hz, hzc, hzl, hzs⟩ := DataW.trod_array Tryd.underlying45 hxi
  have hz1 : zs.map (·.1) = [.lit (.string (wordK i).1), .lit (.string (wordK i).2)] := by
    have := congrArg Prod.fst hz
    rw [hy] at this
    injection this with this
    exact this.symm
  obtain ⟨z0, z1, rfl⟩ : ∃ z0 z1, zs = [z0, z1] := by
    match zs, hzl with
    | [a, b], _ => exact ⟨a, b, rfl⟩
  simp only [List.map_cons, List.map_nil, List.cons.injEq, and_true] at hz1
  have h0 := hzs 0 (by decide)
  have h1 := hzs 1 (by decide)
  rw [cells9] at h0 h1
  have c0 := str_cell h0 hz1.1
  have c1 := str_cell h1 hz1.2
  have a0 : cs.toList[i * 2]? = some (encStr (wordK i).1) := by
    have h2 := congrArg (fun l => l[0]?) c0
    simpa [List.getElem?_take, List.getElem?_drop] using h2
  have a1 : cs.toList[i * 2 + 1]? = some (encStr (wordK i).2) := by
    have h2 := congrArg (fun l => l[0]?) c1
    simpa [List.getElem?_take, List.getElem?_drop] using h2
  rw [World.var?_cell gWords hvar, World.var?_cell gWords hvar]
  exact ⟨by simpa using a0, by simpa using a1⟩
end Go.Proofs.YtaommipcdcncnaaDoor.desk
