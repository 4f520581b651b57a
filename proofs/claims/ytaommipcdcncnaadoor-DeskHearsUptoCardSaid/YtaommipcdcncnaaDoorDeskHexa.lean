/-
  Contract of the reference's hexa.
-/
import Derived.Test.YtaommipcdcncnaaDoorDeskHex
namespace Go.Proofs.YtaommipcdcncnaaDoor.desk
open Go.ChangeShapes Go.WideShapes Go.ChangeAt Go.RowKit Go.Proofs.YtaommipcdcncnaaDoor.kit Go.Deep
set_option linter.unusedVariables false
set_option maxRecDepth 100000
def pairD (x : Nat) : Tx := [hexD (x / 16), hexD (x % 16)]
def qv (x k : Nat) : Nat := if k = 0 then x / 16 else x % 16
theorem pair_more (x k : Nat) (h : k < 2) : (pairD x).take (k + 1) = (pairD x).take k ++ [hexD (qv x k)] := by
  match k, h with
  | 0, _ => rfl
  | 1, _ => rfl
theorem enc_add (a b : Tx) : Value.string ((⟨a.toArray⟩ : ByteArray) ++ ⟨b.toArray⟩) = encStr (a ++ b) := by rw [ByteArray.mk_append_mk]
theorem u8_in {z : Int} (h0 : 0 ≤ z) (h1 : z < 256) : IntKind.u8.wrap z = z := by
  unfold IntKind.wrap
  simp [IntKind.bits, IntKind.signed]
  omega
theorem i32_in {z : Int} (h0 : 0 ≤ z) (h1 : z < 256) : IntKind.i32.wrap z = z := by
  unfold IntKind.wrap
  simp [IntKind.bits, IntKind.signed]
  omega
set_option maxHeartbeats 1000000 in
theorem hexa_any (A : Option Addr) (n c : Nat) (f : Nat → Nat) (w : World) (h : RdI .u8 w A n (fun i => (f i : Nat))) (hf : ∀ i, f i < 256) (hn : n ≤ 1048576) :
    Calls Tryd.prog 24 #[.slice A n c] w fun e w' => e = .returned (encStr (hexT f n)) ∧ New w w' := by
  have hH := Lib.hid h
  have hfH := Lib.hid hf
  clear h hf
  go_enter Tryd.func24, Tryd.ntmps24
  go_wp2_with fail
  go_loopw [10, 3] (fun x ov wr => ∃ i : Nat, x = .int .i64 i ∧ i ≤ n ∧ ov = encStr (hexN f i) ∧ Hid (New w wr)) (fun x _ _ => n - (intOf x).toNat)
  case atStart => exact ⟨0, rfl, Nat.zero_le _, rfl, Lib.hid (New.refl _)⟩
  case round =>
    obtain ⟨i, rfl, hi, rfl, hN⟩ := hrel
    by_cases hlt : i < n
    · obtain ⟨g, off, rfl, hg, hc⟩ := hH.out.2 (by omega)
      have e0 := (hN.out.cell hg).trans (hc i hlt)
      have hil : (i : Int) < (n : Int) := by omega
      obtain ⟨x, hx⟩ : ∃ x, Hid (x = f i) := ⟨_, rfl⟩
      have hx2 : x < 256 := by rw [hx.out]; exact hfH.out i
      replace e0 : wr.cell? ⟨g, off + i, none⟩ = some (.int .u8 ((x : Nat) : Int)) := by rw [hx.out]; exact e0
      obtain ⟨m, hm⟩ : ∃ m, Hid (m = hexN f i) := ⟨_, rfl⟩
      have hml : m.length ≤ 2097152 := by rw [hm.out, hexN_len]; omega
      have hmx : Hid (hexN f (i + 1) = m ++ (pairD x).take 2) := by show _ = _; rw [hm.out, hx.out]; rfl
      rw [← hm.out]
      obtain ⟨W2, hW2⟩ : ∃ W2, W2 = wr.alloc (.cells #[.int .u8 ((x : Int) / 16), .int .u8 ((x : Int) % 16)] 5) := ⟨_, rfl⟩
      have hn2 : Hid (New wr W2) := by show New _ _; rw [hW2]; exact (New.refl wr).alloc _
      have hb2 : Hid (Blk W2 wr.heap.size 5 #[.int .u8 ((x : Int) / 16), .int .u8 ((x : Int) % 16)]) := by show Blk _ _ _ _; rw [hW2]; exact Blk.fresh _ _ _
      have hq : Hid (∀ k, k < 2 → W2.cell? ⟨wr.heap.size, k, none⟩ = some (.int .u8 ((qv x k : Nat) : Int))) := fun k hk => by
        rw [hb2.out.cell]
        match k, hk with
        | 0, _ => simp [qv]
        | 1, _ => simp [qv]
      have hqs : Hid (∀ k, qv x k < 16) := fun k => by
        unfold qv
        split <;> omega
      clear hc
      go_upto_region 6 with fail
      rw [← hW2]
      clear hW2
      obtain ⟨wo, hwo⟩ : ∃ wo, wo = wr := ⟨_, rfl⟩
      subst hwo
      go_loopw [20, 3] (fun q ov wx => ∃ k : Nat, q = .int .i64 k ∧ k ≤ 2 ∧ ov = encStr (m ++ (pairD x).take k) ∧ W2 = wx) (fun q _ _ => 2 - (intOf q).toNat)
      case atStart => exact ⟨0, rfl, by omega, by rw [List.take_zero, List.append_nil], rfl⟩
      case round =>
        obtain ⟨k, rfl, hk, rfl, rfl⟩ := hrel
        by_cases hk2 : k < 2
        · have b0 := hq.out k hk2
          have hkl : (k : Int) < 2 := by omega
          obtain ⟨y, hy⟩ : ∃ y, Hid (y = qv x k) := ⟨_, rfl⟩
          have hy2 : y < 16 := by rw [hy.out]; exact hqs.out k
          rw [← hy.out] at b0
          obtain ⟨M, hM⟩ : ∃ M, Hid (M = m ++ (pairD x).take k) := ⟨_, rfl⟩
          have hMl : M.length ≤ 2097160 := by
            rw [hM.out, List.length_append, List.length_take]
            omega
          have hmore : Hid (m ++ (pairD x).take (k + 1) = M ++ [hexD y]) := by
            show _ = _
            rw [pair_more x k hk2, hM.out, hy.out, List.append_assoc]
          rw [← hM.out]
          by_cases hy10 : y < 10
          · have hyi : (y : Int) < 10 := by omega
            have w1 : IntKind.u8.wrap (48 + (y : Int)) = 48 + (y : Int) := u8_in (by omega) (by omega)
            have w2 : IntKind.i32.wrap (48 + (y : Int)) = 48 + (y : Int) := i32_in (by omega) (by omega)
            have hr := encode_ascii (r := 48 + (y : Int)) (by omega) (by omega)
            have hd : Hid (UInt8.ofNat (48 + (y : Int)).toNat = hexD y) := by
              show _ = _
              unfold hexD
              rw [if_pos hy10, show (48 + (y : Int)).toNat = 48 + y by omega]
            rw [hd.out] at hr
            obtain ⟨z, hz⟩ : ∃ z, Hid (z = hexD y) := ⟨_, rfl⟩
            rw [← hz.out] at hr hmore
            clear hd hy10
            go_wp2
            go_roundw
            case rel => exact ⟨k + 1, by go_num, by omega, by rw [hmore.out]; exact enc_add _ _, trivial⟩
            case measure => simp [intOf]; omega
          · have hyi : ¬ (y : Int) < 10 := by omega
            have w1 : IntKind.u8.wrap (87 + (y : Int)) = 87 + (y : Int) := u8_in (by omega) (by omega)
            have w2 : IntKind.i32.wrap (87 + (y : Int)) = 87 + (y : Int) := i32_in (by omega) (by omega)
            have hr := encode_ascii (r := 87 + (y : Int)) (by omega) (by omega)
            have hd : Hid (UInt8.ofNat (87 + (y : Int)).toNat = hexD y) := by
              show _ = _
              unfold hexD
              rw [if_neg hy10, show (87 + (y : Int)).toNat = 87 + y by omega]
            rw [hd.out] at hr
            obtain ⟨z, hz⟩ : ∃ z, Hid (z = hexD y) := ⟨_, rfl⟩
            rw [← hz.out] at hr hmore
            clear hd hy10
            go_wp2
            go_roundw
            case rel => exact ⟨k + 1, by go_num, by omega, by rw [hmore.out]; exact enc_add _ _, trivial⟩
            case measure => simp [intOf]; omega
        · have hk3 : k = 2 := by omega
          subst hk3
          have hkl : ¬ (2 : Int) < 2 := by omega
          rw [← hmx.out]
          go_wp2
          go_roundw
          case rel => exact ⟨i + 1, by go_num, by omega, rfl, hN.out.next hn2.out⟩
          case measure => simp [intOf]; omega
    · have hin : n = i := by omega
      have hil : ¬ (i : Int) < (n : Int) := by omega
      subst hin
      by_cases hz : n = 0
      · subst hz
        go_wp2
        exact bodyPost_ret (v := encStr [45]) (by simp [results, Tryd.results24, go_sem]) rfl ⟨rfl, hN.out⟩
      · obtain ⟨m, hm⟩ : ∃ m, Hid (m = hexN f n) := ⟨_, rfl⟩
        have hmz : ((m : Tx) == []) = false := by
          have h : m.length = 2 * n := by rw [hm.out, hexN_len]
          cases m with
          | nil => simp at h; omega
          | cons a b => rfl
        rw [← hm.out]
        go_wp2
        exact bodyPost_ret (v := encStr m) (by simp [results, Tryd.results24, go_sem]) rfl ⟨by rw [hexT_ne (by omega), hm.out], hN.out⟩
end Go.Proofs.YtaommipcdcncnaaDoor.desk
