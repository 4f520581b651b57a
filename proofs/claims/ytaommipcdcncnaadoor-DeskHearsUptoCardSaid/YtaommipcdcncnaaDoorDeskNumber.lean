/-
  Contract of the program's number.
-/
import Derived.Test.YtaommipcdcncnaaDoorDeskNum
import Derived.Test.YtaommipcdcncnaaDoorDeskShelf2
import Derived.Test.YtaommipcdcncnaaDoorDeskTell
import Derived.Lib.SmallJoins
namespace Go.Proofs.YtaommipcdcncnaaDoor.desk
open Go.ChangeShapes Go.WideShapes Go.ChangeAt Go.RowKit Go.Proofs.YtaommipcdcncnaaDoor.kit Go.Deep
set_option linter.unusedVariables false
set_option maxRecDepth 100000
/-- the two errors' variables hold nothing or a value with its type -/
structure ErrsAre (w : World) : Prop where
  e3 : ∃ ev, w.cell? ⟨3, 0, none⟩ = some ev ∧ (ev = .nilIface ∨ ∃ te pe, ev = .iface te pe)
  e4 : ∃ ev, w.cell? ⟨4, 0, none⟩ = some ev ∧ (ev = .nilIface ∨ ∃ te pe, ev = .iface te pe)
theorem ErrsAre.new {w w' : World} (h : ErrsAre w) (hn : New w w') : ErrsAre w' := by
  obtain ⟨a, ha, ha'⟩ := h.e3
  obtain ⟨b, hb, hb'⟩ := h.e4
  exact ⟨⟨a, (hn.cell (lt_of_cell ha)).trans ha, ha'⟩, ⟨b, (hn.cell (lt_of_cell hb)).trans hb, hb'⟩⟩
theorem bytesWorld_new (w : World) (ty : TypeId) (t : ByteArray) : New w (Lib.bytesWorld w ty t) := Go.Joins.below_bytesWorld _ w ty t (Nat.le_refl _)
theorem atoi_any (s : Tx) (hs : s.length ≤ 1048576) (w : World) (hE : ErrsAre w) :
    Calls Tryd.prog 49 #[encStr s] w fun e w' => (∃ v, e = .returned (.tuple #[.int .i64 v, .nilIface]) ∧ NumP s v (Lib.itoa v == s) ∧ New w w') ∨ (∃ v t p, e = .returned (.tuple #[.int .i64 v, .iface t p]) ∧ NumP s v false ∧ New w w') := by
  rcases h : Lib.atoiAll s with v | _ | _
  · refine (sh_strconv_Atoi_ok ⟨s.toArray⟩ (by show s.toArray.size ≤ _; simp; omega) v h w).mono fun e w' hh => .inl ⟨v, hh.1, NumP.atoi h, ?_⟩
    rcases hh.2 with rfl | ⟨t, rfl⟩
    · exact New.refl _
    · exact bytesWorld_new _ _ _
  · have hno : ∀ v, Lib.atoiAll s ≠ .ok v := fun v e => by rw [h] at e; cases e
    obtain ⟨ev, hv, hev⟩ := hE.e3
    refine (sh_strconv_Atoi_other ⟨s.toArray⟩ (by show s.toArray.size ≤ _; simp; omega) hno (fun e => by rw [show (⟨s.toArray⟩ : ByteArray).data.toList = s from rfl, h] at e; cases e) ev w hv hev).mono fun e w' ⟨N, h1, _, _, h4⟩ => .inr ⟨_, _, _, h1, NumP.bad (by decide) hno, h4⟩
  · have hno : ∀ v, Lib.atoiAll s ≠ .ok v := fun v e => by rw [h] at e; cases e
    obtain ⟨ev, hv, hev⟩ := hE.e4
    refine (sh_strconv_Atoi_range ⟨s.toArray⟩ (by show s.toArray.size ≤ _; simp; omega) h ev w hv hev).mono fun e w' ⟨N, h1, _, _, h4⟩ => .inr ⟨_, _, _, h1, NumP.bad (Lib.atoiSat_bounds _) hno, h4⟩
theorem number_any (s : Tx) (hs : s.length ≤ 1048576) (w : World) (hE : ErrsAre w) (hT : Lib.TabIs Tryd.prog w "internal/strconv.uint64pow10" .u64 Lib.pow10Tab) :
    Calls Tryd.prog 31 #[encStr s] w fun e w' => ∃ n b, e = .returned (.tuple #[.int .i64 n, .bool b]) ∧ NumP s n b ∧ New w w' := by
  have hA := Lib.hid (atoi_any s hs w hE)
  have hI := Lib.hid (fun (n : Int) (h0 : -9223372036854775808 ≤ n) (h1 : n ≤ 9223372036854775807) (w' : World) (hn : New w w') => itoa_new n h0 h1 w' (tab_new hT hn))
  clear hE hT
  go_enter Tryd.func31, Tryd.ntmps31
  go_upto_region 2 with (go_at_call 49; refine hA.out.mono ?_; rintro e w2 (⟨v, rfl, hP, hn2⟩ | ⟨v, t, p, rfl, hP, hn2⟩) <;> have hP := Lib.hid hP <;> have hn2 := Lib.hid hn2)
  · have hi := Lib.hid (hI.out v hP.out.1.1 hP.out.1.2 w2 hn2.out)
    obtain ⟨dg, hdg⟩ : ∃ dg, Hid (dg = Lib.itoa v) := ⟨_, rfl⟩
    rw [← hdg.out] at hP hi
    go_wp2_with (go_at_call 20; refine hi.out.mono ?_; rintro e w3 ⟨rfl, hn3⟩; have hn3 := Lib.hid hn3)
    exact bodyPost_ret (v := .tuple #[.int .i64 v, .bool (dg == s)]) (by simp [results, Tryd.results31, go_sem]) rfl ⟨v, _, rfl, hP.out, hn2.out.next hn3.out⟩
  · go_wp2
    exact bodyPost_ret (v := .tuple #[.int .i64 v, .bool false]) (by simp [results, Tryd.results31, go_sem]) rfl ⟨v, _, rfl, hP.out, hn2.out⟩
end Go.Proofs.YtaommipcdcncnaaDoor.desk
