/- DeviceValid of the program and of the reference. -/
import Derived.Test.YtenbbkmbnpdfaaaVd
namespace Go.Proofs.Ytenbbkmbnpdfaaa
open Go.RowKit

theorem DvTo.all {D : List Bk} {n : Nat} (h : DvTo D n) (hn : D.length ≤ n) : ∀ k (h : k < D.length), BkOk D[k] := fun k hk => h k hk (by omega)
set_option maxRecDepth 100000 in
set_option maxHeartbeats 1000000 in
theorem iDeviceValid_any (F : Nat → Prop) (A : Option Addr) (c : Nat) (D : List Bk) (w : World) (h : DevR F w A D) :
    Calls Try.prog 20 #[.slice A D.length c] w fun e w' => e = .returned (.bool (decide (DvOk D))) ∧ Chg NoB w w' := by
  by_cases h1 : 1 ≤ D.length
  case neg =>
    go_enter Try.func20, Try.ntmps20
    go_wp2
    go_ret
    exact ⟨ret_bool (decide_eq_false fun hh => by have := hh.1.1; omega).symm, Chg.refl _ _⟩
  by_cases h2 : D.length ≤ 12
  case neg =>
    go_enter Try.func20, Try.ntmps20
    go_wp2
    go_ret
    exact ⟨ret_bool (decide_eq_false fun hh => by have := hh.1.2; omega).symm, Chg.refl _ _⟩
  have HR := Lib.hid h
  clear h
  go_enter Try.func20, Try.ntmps20
  go_wp2
  go_loopw [15] (fun i wr => ∃ k : Nat, k ≤ D.length ∧ i = .int .i64 k ∧ Chg NoB w wr ∧ Hid (DvTo D k)) (fun i _ => D.length - (intOf i).toNat)
  case atStart => exact ⟨0, Nat.zero_le _, rfl, Chg.refl _ _, Lib.hid (DvTo.zero _)⟩
  case round =>
    obtain ⟨k, hkl, rfl, hch, hto⟩ := hrel
    by_cases hk : k < D.length
    · obtain ⟨bb, o, A', c', rfl, hf, c0, c1, hr, hcc⟩ := (HR.out.new hch) k hk
      have hi0 : (0 : Int) ≤ (k : Int) := Int.natCast_nonneg _
      have hi1 : (k : Int) < (D.length : Int) := by omega
      have HCH := Lib.hid hch
      have HRD := Lib.hid hr
      clear hch hr
      go_wp2_with fail
      have HRA := HRD.out.new ((Chg.refl NoB wr).alloc (.cells #[.int .i64 D[k].wear, .slice A' D[k].pages.length c'] 44))
      by_cases hb : BkOk D[k]
      · have HB := Lib.hid hb
        clear hb
        refine (iBlockValid_t _ _ _ D[k] _ HRA HB.out).mono ?_
        rintro e w1 ⟨rfl, hc1⟩
        have HCC := Lib.hid ((HCH.out.alloc _).trans hc1)
        clear hc1 HRA
        go_wp2
        go_roundw
        case rel => exact ⟨k + 1, by omega, by go_num, HCC.out, Lib.hid (hto.out.succ hk HB.out)⟩
        case measure => simp [intOf]; omega
      · have HB := Lib.hid hb
        clear hb
        refine (iBlockValid_f _ _ _ D[k] _ HRA HB.out).mono ?_
        rintro e w1 ⟨rfl, hc1⟩
        have HCC := Lib.hid ((HCH.out.alloc _).trans hc1)
        clear hc1 HRA
        go_wp2
        go_ret
        exact ⟨ret_bool (decide_eq_false fun hh => HB.out (hh.2 k hk)).symm, HCC.out⟩
    · have HCH := Lib.hid hch
      have HE := Lib.hid (show DvOk D from ⟨⟨h1, h2⟩, hto.out.all (by omega)⟩)
      clear hch
      go_wp2
      go_ret
      exact ⟨ret_bool (decide_eq_true HE.out).symm, HCH.out⟩
theorem iDeviceValid_t (F : Nat → Prop) (A : Option Addr) (c : Nat) (D : List Bk) (w : World) (h : DevR F w A D) (hd : DvOk D) :
    Calls Try.prog 20 #[.slice A D.length c] w fun e w' => e = .returned (.bool true) ∧ Chg NoB w w' :=
  (iDeviceValid_any F A c D w h).mono fun e w' ⟨he, hw⟩ => ⟨by rw [he, decide_eq_true hd], hw⟩
theorem iDeviceValid_f (F : Nat → Prop) (A : Option Addr) (c : Nat) (D : List Bk) (w : World) (h : DevR F w A D) (hd : ¬ DvOk D) :
    Calls Try.prog 20 #[.slice A D.length c] w fun e w' => e = .returned (.bool false) ∧ Chg NoB w w' :=
  (iDeviceValid_any F A c D w h).mono fun e w' ⟨he, hw⟩ => ⟨by rw [he, decide_eq_false hd], hw⟩

/-- No list of a device is longer than a slice can be. -/
def Small (D : List Bk) : Prop := D.length ≤ 9223372036854775807 ∧ ∀ k (h : k < D.length), D[k].pages.length ≤ 9223372036854775807
theorem DvOk.small {D : List Bk} (h : DvOk D) : Small D := ⟨by have := h.1.2; omega, fun k hk => by have := (h.2 k hk).2.1; omega⟩
set_option maxRecDepth 100000 in
set_option maxHeartbeats 1000000 in
theorem sDeviceValid_any (F : Nat → Prop) (A : Option Addr) (c : Nat) (D : List Bk) (w : World) (h : DevR F w A D) (hs : Small D) :
    Calls Try.prog 62 #[.slice A D.length c] w fun e w' => e = .returned (.bool (decide (DvOk D))) ∧ Chg NoB w w' := by
  have HR := Lib.hid h
  have HS := Lib.hid hs.2
  have hs1 := hs.1
  clear h hs
  go_enter Try.func62, Try.ntmps62
  go_wp2
  go_loopw [3] (fun i wr => ∃ k : Nat, k ≤ D.length ∧ i = .int .i64 k ∧ Chg NoB w wr ∧ Hid (DvTo D k)) (fun i _ => D.length - (intOf i).toNat)
  case atStart => exact ⟨0, Nat.zero_le _, rfl, Chg.refl _ _, Lib.hid (DvTo.zero _)⟩
  case round =>
    obtain ⟨k, hkl, rfl, hch, hto⟩ := hrel
    by_cases hk : k < D.length
    · obtain ⟨bb, o, A', c', rfl, hf, c0, c1, hr, hcc⟩ := (HR.out.new hch) k hk
      have hi0 : (0 : Int) ≤ (k : Int) := Int.natCast_nonneg _
      have hi1 : (k : Int) < (D.length : Int) := by omega
      have HCH := Lib.hid hch
      have HRD := Lib.hid hr
      clear hch hr
      go_wp2_with fail
      by_cases hb : BkOk D[k]
      · have HB := Lib.hid hb
        clear hb
        refine (sBlockValid_t _ _ _ D[k] _ HRD.out HB.out).mono ?_
        rintro e w1 ⟨rfl, hc1⟩
        have HCC := Lib.hid (HCH.out.trans hc1)
        clear hc1
        go_wp2
        go_roundw
        case rel => exact ⟨k + 1, by omega, by go_num, HCC.out, Lib.hid (hto.out.succ hk HB.out)⟩
        case measure => simp [intOf]; omega
      · have HB := Lib.hid hb
        clear hb
        refine (sBlockValid_f _ _ _ D[k] _ HRD.out (HS.out k hk) HB.out).mono ?_
        rintro e w1 ⟨rfl, hc1⟩
        have HCC := Lib.hid (HCH.out.trans hc1)
        clear hc1
        go_wp2
        go_ret
        exact ⟨ret_bool (decide_eq_false fun hh => HB.out (hh.2 k hk)).symm, HCC.out⟩
    · have HCH := Lib.hid hch
      have HE := Lib.hid (hto.out.all (show D.length ≤ k by omega))
      clear hch
      go_wp2_with fail
      by_cases hl : 1 ≤ (D.length : Int) ∧ (D.length : Int) ≤ 12
      · have HL := Lib.hid hl
        clear hl
        refine (l1In_t _ _ _ _ HL.out).mono ?_
        rintro e w1 ⟨rfl, rfl⟩
        go_wp2
        go_ret
        exact ⟨ret_bool (decide_eq_true ⟨by have := HL.out; omega, HE.out⟩).symm, HCH.out⟩
      · have HL := Lib.hid hl
        clear hl
        refine (l1In_f _ _ _ _ HL.out).mono ?_
        rintro e w1 ⟨rfl, rfl⟩
        go_wp2
        go_ret
        exact ⟨ret_bool (decide_eq_false fun hh => HL.out (by have := hh.1; omega)).symm, HCH.out⟩
theorem sDeviceValid_t (F : Nat → Prop) (A : Option Addr) (c : Nat) (D : List Bk) (w : World) (h : DevR F w A D) (hd : DvOk D) :
    Calls Try.prog 62 #[.slice A D.length c] w fun e w' => e = .returned (.bool true) ∧ Chg NoB w w' :=
  (sDeviceValid_any F A c D w h hd.small).mono fun e w' ⟨he, hw⟩ => ⟨by rw [he, decide_eq_true hd], hw⟩
theorem sDeviceValid_f (F : Nat → Prop) (A : Option Addr) (c : Nat) (D : List Bk) (w : World) (h : DevR F w A D) (hs : Small D) (hd : ¬ DvOk D) :
    Calls Try.prog 62 #[.slice A D.length c] w fun e w' => e = .returned (.bool false) ∧ Chg NoB w w' :=
  (sDeviceValid_any F A c D w h hs).mono fun e w' ⟨he, hw⟩ => ⟨by rw [he, decide_eq_false hd], hw⟩
end Go.Proofs.Ytenbbkmbnpdfaaa
