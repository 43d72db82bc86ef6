/- WearTotal and WearSpread of the program and of the reference. -/
import Derived.Test.YtenbbkmbnpdfaaaVe
namespace Go.Proofs.Ytenbbkmbnpdfaaa
open Go.RowKit

theorem wearAt_eq {D : List Bk} {k : Nat} (h : k < D.length) : wearAt D k = D[k].wear := by
  unfold wearAt; rw [List.getD_eq_getElem?_getD, List.getElem?_eq_getElem h]; rfl
theorem DvOk.wear {D : List Bk} (hd : DvOk D) {k : Nat} (h : k < D.length) : 0 ≤ D[k].wear ∧ D[k].wear ≤ 100 := (hd.2 k h).1
theorem min_if (a b : Int) : (if b < a then b else a) = min a b := by split <;> omega
theorem max_if (a b : Int) : (if a < b then b else a) = max a b := by split <;> omega
theorem sumTo'_le {D : List Bk} (hd : DvOk D) (n : Nat) (hn : n ≤ D.length) : 0 ≤ sumTo' D n ∧ sumTo' D n ≤ 100 * (n : Int) := by
  induction n with
  | zero => simp [sumTo']
  | succ n ih =>
    have := ih (by omega)
    have h1 := hd.wear (k := n) (by omega)
    rw [sumTo', wearAt_eq (by omega)]
    omega
theorem leastTo_le {D : List Bk} (hd : DvOk D) (n : Nat) (hn : n ≤ D.length) : 0 ≤ leastTo D (wearAt D 0) n ∧ leastTo D (wearAt D 0) n ≤ 100 := by
  induction n with
  | zero =>
    rw [leastTo, wearAt_eq (by have := hd.1; omega)]
    exact hd.wear _
  | succ n ih =>
    have := ih (by omega)
    have h1 := hd.wear (k := n) (by omega)
    rw [leastTo, wearAt_eq (D := D) (k := n) (by omega)]
    omega
theorem mostTo_le {D : List Bk} (hd : DvOk D) (n : Nat) (hn : n ≤ D.length) : 0 ≤ mostTo D (wearAt D 0) n ∧ mostTo D (wearAt D 0) n ≤ 100 := by
  induction n with
  | zero =>
    rw [mostTo, wearAt_eq (by have := hd.1; omega)]
    exact hd.wear _
  | succ n ih =>
    have := ih (by omega)
    have h1 := hd.wear (k := n) (by omega)
    rw [mostTo, wearAt_eq (D := D) (k := n) (by omega)]
    omega
set_option maxRecDepth 100000 in
set_option maxHeartbeats 1000000 in
theorem iWearTotal_any (F : Nat → Prop) (A : Option Addr) (c : Nat) (D : List Bk) (w : World) (h : DevR F w A D) :
    Calls Try.prog 22 #[.slice A D.length c] w fun e w' => e = .returned (.int .i64 (wearTotal D)) ∧ Chg NoB w w' := by
  by_cases hd : DvOk D
  case neg =>
    have HD := Lib.hid hd
    clear hd
    go_enter Try.func22, Try.ntmps22
    go_wp2_with fail
    refine (iDeviceValid_f _ A c D w h HD.out).mono ?_
    rintro e w1 ⟨rfl, hc1⟩
    have HC := Lib.hid hc1
    clear hc1
    go_wp2
    go_ret
    exact ⟨ret_int (if_neg HD.out).symm, HC.out⟩
  have HD := Lib.hid hd
  have h1 := hd.1.1
  have h2 := hd.1.2
  clear hd
  go_enter Try.func22, Try.ntmps22
  go_wp2_with fail
  refine (iDeviceValid_t _ A c D w h HD.out).mono ?_
  rintro e w1 ⟨rfl, hc1⟩
  have HC := Lib.hid hc1
  have HR := Lib.hid h
  clear hc1 h
  go_wp2
  go_loopw [3, 11] (fun v i wr => ∃ k : Nat, k ≤ D.length ∧ i = .int .i64 k ∧ v = .int .i64 (sumTo' D k) ∧ Chg NoB w wr) (fun _ i _ => D.length - (intOf i).toNat)
  case atStart => exact ⟨0, Nat.zero_le _, rfl, rfl, HC.out⟩
  case round =>
    obtain ⟨k, hkl, rfl, rfl, hch⟩ := hrel
    by_cases hk : k < D.length
    · obtain ⟨bb, o, A', c', rfl, hf, c0, c1, hr, hcc⟩ := (HR.out.new hch) k hk
      have hi0 : (0 : Int) ≤ (k : Int) := Int.natCast_nonneg _
      have hi1 : (k : Int) < (D.length : Int) := by omega
      have HCH := Lib.hid hch
      have HS := Lib.hid (show sumTo' D (k + 1) = sumTo' D k + D[k].wear by rw [sumTo', wearAt_eq hk])
      obtain ⟨b1, b2⟩ := sumTo'_le HD.out k (by omega)
      obtain ⟨b3, b4⟩ := HD.out.wear hk
      clear hch hr
      go_wp2
      go_roundw
      case rel => exact ⟨k + 1, by omega, by go_num, by rw [HS.out], HCH.out.alloc _⟩
      case measure => simp [intOf]; omega
    · obtain rfl : k = D.length := by omega
      have HCH := Lib.hid hch
      clear hch
      go_wp2
      go_ret
      exact ⟨ret_int (if_pos HD.out).symm, HCH.out⟩
set_option maxRecDepth 100000 in
set_option maxHeartbeats 1000000 in
theorem sWearTotal_any (F : Nat → Prop) (A : Option Addr) (c : Nat) (D : List Bk) (w : World) (h : DevR F w A D) (hs : Small D) :
    Calls Try.prog 24 #[.slice A D.length c] w fun e w' => e = .returned (.int .i64 (wearTotal D)) ∧ Chg NoB w w' := by
  by_cases hd : DvOk D
  case neg =>
    have HD := Lib.hid hd
    clear hd
    go_enter Try.func24, Try.ntmps24
    go_wp2_with fail
    refine (sDeviceValid_f _ A c D w h hs HD.out).mono ?_
    rintro e w1 ⟨rfl, hc1⟩
    have HC := Lib.hid hc1
    clear hc1
    go_wp2
    go_ret
    exact ⟨ret_int (if_neg HD.out).symm, HC.out⟩
  have HD := Lib.hid hd
  have h1 := hd.1.1
  have h2 := hd.1.2
  clear hd hs
  go_enter Try.func24, Try.ntmps24
  go_wp2_with fail
  refine (sDeviceValid_t _ A c D w h HD.out).mono ?_
  rintro e w1 ⟨rfl, hc1⟩
  have HC := Lib.hid hc1
  have HR := Lib.hid (h.new hc1)
  clear hc1 h
  go_wp2
  go_loop [3, 4] (fun v i => ∃ k : Nat, k ≤ D.length ∧ i = .int .i64 k ∧ v = .int .i64 (sumTo' D k)) (fun _ i => D.length - (intOf i).toNat)
  case atStart => exact ⟨0, Nat.zero_le _, rfl, rfl⟩
  case round =>
    obtain ⟨k, hkl, rfl, rfl⟩ := hrel
    by_cases hk : k < D.length
    · obtain ⟨bb, o, A', c', rfl, hf, c0, c1, hr, hcc⟩ := HR.out k hk
      have hi0 : (0 : Int) ≤ (k : Int) := Int.natCast_nonneg _
      have hi1 : (k : Int) < (D.length : Int) := by omega
      have HS := Lib.hid (show sumTo' D (k + 1) = sumTo' D k + D[k].wear by rw [sumTo', wearAt_eq hk])
      obtain ⟨b1, b2⟩ := sumTo'_le HD.out k (by omega)
      obtain ⟨b3, b4⟩ := HD.out.wear hk
      clear hr
      go_wp2
      go_round
      case rel => exact ⟨k + 1, by omega, by go_num, by rw [HS.out]⟩
      case measure => simp [intOf]; omega
    · obtain rfl : k = D.length := by omega
      go_wp2
      go_ret
      exact ⟨ret_int (if_pos HD.out).symm, HC.out⟩
set_option maxRecDepth 100000 in
set_option maxHeartbeats 1000000 in
theorem iWearSpread_any (F : Nat → Prop) (A : Option Addr) (c : Nat) (D : List Bk) (w : World) (h : DevR F w A D) :
    Calls Try.prog 28 #[.slice A D.length c] w fun e w' => e = .returned (.int .i64 (wearSpread D)) ∧ Chg NoB w w' := by
  by_cases hd : DvOk D
  case neg =>
    have HD := Lib.hid hd
    clear hd
    go_enter Try.func28, Try.ntmps28
    go_wp2_with fail
    refine (iDeviceValid_f _ A c D w h HD.out).mono ?_
    rintro e w1 ⟨rfl, hc1⟩
    have HC := Lib.hid hc1
    clear hc1
    go_wp2
    go_ret
    exact ⟨ret_int (if_neg HD.out).symm, HC.out⟩
  have HD := Lib.hid hd
  have h1 := hd.1.1
  have h2 := hd.1.2
  clear hd
  go_enter Try.func28, Try.ntmps28
  go_wp2_with fail
  refine (iDeviceValid_t _ A c D w h HD.out).mono ?_
  rintro e w1 ⟨rfl, hc1⟩
  have HR := Lib.hid h
  obtain ⟨bb, o, A', c', rfl, hf, c0, c1, hr, hcc⟩ := (h.new hc1) 0 (by omega)
  have HW0 := Lib.hid (wearAt_eq (D := D) (k := 0) (by omega))
  have HC := Lib.hid hc1
  clear hc1 h hr
  have hi1 : (0 : Int) < (D.length : Int) := by omega
  have c0' : w1.cell? ⟨bb, o, none⟩ = some (.int .i64 (wearAt D 0)) := by rw [HW0.out]; simpa using c0
  clear c0 c1
  go_wp2
  go_quiet (fail)
  go_wp2
  go_loopw [3, 4, 20] (fun v u i wr => ∃ k : Nat, k ≤ D.length ∧ i = .int .i64 k ∧ v = .int .i64 (leastTo D (wearAt D 0) k) ∧ u = .int .i64 (mostTo D (wearAt D 0) k) ∧ Chg NoB w wr) (fun _ _ i _ => D.length - (intOf i).toNat)
  case atStart => exact ⟨0, Nat.zero_le _, rfl, rfl, rfl, HC.out.drewN _⟩
  case round =>
    obtain ⟨k, hkl, rfl, rfl, rfl, hch⟩ := hrel
    by_cases hk : k < D.length
    · obtain ⟨bb', o', A2, c2, e1, hf', d0, d1, hr', hcc'⟩ := (HR.out.new hch) k hk
      cases e1
      have hi0 : (0 : Int) ≤ (k : Int) := Int.natCast_nonneg _
      have hi1 : (k : Int) < (D.length : Int) := by omega
      have HCH := Lib.hid hch
      have HS := Lib.hid (show leastTo D (wearAt D 0) (k + 1) = min (leastTo D (wearAt D 0) k) D[k].wear by rw [leastTo, wearAt_eq hk])
      have HM := Lib.hid (show mostTo D (wearAt D 0) (k + 1) = max (mostTo D (wearAt D 0) k) D[k].wear by rw [mostTo, wearAt_eq hk])
      clear hch hr'
      go_wp2
      go_roundw
      case rel => exact ⟨k + 1, by omega, by go_num, by rw [HS.out, min_if], by rw [HM.out, max_if], HCH.out.alloc _⟩
      case measure => simp [intOf]; omega
    · obtain rfl : k = D.length := by omega
      obtain ⟨b1, b2⟩ := leastTo_le HD.out D.length (Nat.le_refl _)
      obtain ⟨b3, b4⟩ := mostTo_le HD.out D.length (Nat.le_refl _)
      have HCH := Lib.hid hch
      clear hch
      go_wp2
      go_ret
      exact ⟨ret_int (if_pos HD.out).symm, HCH.out⟩
set_option maxRecDepth 100000 in
set_option maxHeartbeats 1000000 in
theorem sWearSpread_any (F : Nat → Prop) (A : Option Addr) (c : Nat) (D : List Bk) (w : World) (h : DevR F w A D) (hs : Small D) :
    Calls Try.prog 27 #[.slice A D.length c] w fun e w' => e = .returned (.int .i64 (wearSpread D)) ∧ Chg NoB w w' := by
  by_cases hd : DvOk D
  case neg =>
    have HD := Lib.hid hd
    clear hd
    go_enter Try.func27, Try.ntmps27
    go_wp2_with fail
    refine (sDeviceValid_f _ A c D w h hs HD.out).mono ?_
    rintro e w1 ⟨rfl, hc1⟩
    have HC := Lib.hid hc1
    clear hc1
    go_wp2
    go_ret
    exact ⟨ret_int (if_neg HD.out).symm, HC.out⟩
  have HD := Lib.hid hd
  have h1 := hd.1.1
  have h2 := hd.1.2
  clear hd hs
  go_enter Try.func27, Try.ntmps27
  go_wp2_with fail
  refine (sDeviceValid_t _ A c D w h HD.out).mono ?_
  rintro e w1 ⟨rfl, hc1⟩
  have HR := Lib.hid (h.new hc1)
  obtain ⟨bb, o, A', c', rfl, hf, c0, c1, hr, hcc⟩ := (h.new hc1) 0 (by omega)
  have HW0 := Lib.hid (wearAt_eq (D := D) (k := 0) (by omega))
  have HC := Lib.hid hc1
  clear hc1 h hr
  have hi1 : (0 : Int) < (D.length : Int) := by omega
  have c0' : w1.cell? ⟨bb, o, none⟩ = some (.int .i64 (wearAt D 0)) := by rw [HW0.out]; simpa using c0
  clear c0 c1
  go_wp2
  go_loop [3, 4, 5] (fun v u i => ∃ k : Nat, k ≤ D.length ∧ i = .int .i64 k ∧ v = .int .i64 (leastTo D (wearAt D 0) k) ∧ u = .int .i64 (mostTo D (wearAt D 0) k)) (fun _ _ i => D.length - (intOf i).toNat)
  case atStart => exact ⟨1, by omega, rfl, congrArg _ (by simp [leastTo]), congrArg _ (by simp [mostTo])⟩
  case round =>
    obtain ⟨k, hkl, rfl, rfl, rfl⟩ := hrel
    by_cases hk : k < D.length
    · obtain ⟨bb', o', A2, c2, e1, hf', d0, d1, hr', hcc'⟩ := HR.out k hk
      cases e1
      have hi0 : (0 : Int) ≤ (k : Int) := Int.natCast_nonneg _
      have hi1 : (k : Int) < (D.length : Int) := by omega
      have HS := Lib.hid (show leastTo D (wearAt D 0) (k + 1) = min (leastTo D (wearAt D 0) k) D[k].wear by rw [leastTo, wearAt_eq hk])
      have HM := Lib.hid (show mostTo D (wearAt D 0) (k + 1) = max (mostTo D (wearAt D 0) k) D[k].wear by rw [mostTo, wearAt_eq hk])
      clear hr'
      go_wp2
      go_round
      case rel => exact ⟨k + 1, by omega, by go_num, by rw [HS.out, min_if], by rw [HM.out, max_if]⟩
      case measure => simp [intOf]; omega
    · obtain rfl : k = D.length := by omega
      obtain ⟨b1, b2⟩ := leastTo_le HD.out D.length (Nat.le_refl _)
      obtain ⟨b3, b4⟩ := mostTo_le HD.out D.length (Nat.le_refl _)
      go_wp2
      go_ret
      exact ⟨ret_int (if_pos HD.out).symm, HC.out⟩
end Go.Proofs.Ytenbbkmbnpdfaaa
