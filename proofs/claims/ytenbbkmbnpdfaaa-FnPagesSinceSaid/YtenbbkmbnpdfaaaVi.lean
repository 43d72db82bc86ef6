/- LastStamp of the program and of the reference. -/
import Derived.Test.YtenbbkmbnpdfaaaVh
namespace Go.Proofs.Ytenbbkmbnpdfaaa
open Go.RowKit

theorem pgAt_eq {D : List Bk} {q r : Nat} (hq : q < D.length) (hr : r < D[q].pages.length) (h4 : r < 4) : pgAt D (4 * q + r) = D[q].pages[r] := by
  unfold pgAt
  have e1 : (4 * q + r) / 4 = q := by omega
  have e2 : (4 * q + r) % 4 = r := by omega
  rw [e1, e2, getD_at hq, List.getD_eq_getElem?_getD, List.getElem?_eq_getElem hr]; rfl
theorem pgAt_ok {D : List Bk} (hd : DvOk D) {n : Nat} (hn : n < 4 * D.length) : PgOk (pgAt D n) := by
  have hq : n / 4 < D.length := by omega
  have h4 : D[n / 4].pages.length = 4 := (hd.2 _ hq).2.1
  have h := pgAt_eq (D := D) (q := n / 4) (r := n % 4) hq (by omega) (by omega)
  have e : 4 * (n / 4) + n % 4 = n := by omega
  rw [e] at h
  rw [h]
  exact ((hd.2 _ hq).2.2 (n % 4) (by omega)).1
theorem stamp_range {p : Pg} (h : PgOk p) : 0 ≤ p.stamp ∧ p.stamp ≤ 1000000 := by
  cases hf : p.full
  · have := (h.1 hf).2.2.2; omega
  · have := (h.2 hf).2.2.2; omega
theorem lastTo_range {D : List Bk} (hd : DvOk D) (n : Nat) (hn : n ≤ 4 * D.length) : 0 ≤ lastTo D n ∧ lastTo D n ≤ 1000000 := by
  induction n with
  | zero => simp [lastTo]
  | succ n ih =>
    have := ih (by omega)
    have h1 := stamp_range (pgAt_ok hd (n := n) (by omega))
    rw [lastTo]
    omega
set_option maxRecDepth 100000 in
set_option maxHeartbeats 1000000 in
theorem sLastStamp_any (F : Nat → Prop) (A : Option Addr) (c : Nat) (D : List Bk) (w : World) (h : DevR F w A D) (hs : Small D) :
    Calls Try.prog 29 #[.slice A D.length c] w fun e w' => e = .returned (.int .i64 (lastStamp D)) ∧ Chg NoB w w' := by
  by_cases hd : DvOk D
  case neg =>
    have HD := Lib.hid hd
    clear hd
    go_enter Try.func29, Try.ntmps29
    go_wp2_with fail
    refine (sDeviceValid_f _ A c D w h hs HD.out).mono ?_
    rintro e w1 ⟨rfl, hc1⟩
    have HC := Lib.hid hc1
    clear hc1
    go_wp2
    go_ret
    exact ⟨ret_int (if_neg HD.out).symm, HC.out⟩
  have HD := Lib.hid hd
  have h1 := hd.1.1
  have h2 := hd.1.2
  clear hd
  go_enter Try.func29, Try.ntmps29
  go_wp2_with fail
  refine (sDeviceValid_t _ A c D w h HD.out).mono ?_
  rintro e w1 ⟨rfl, hc1⟩
  have HC := Lib.hid hc1
  have HR := Lib.hid h
  have HS := Lib.hid hs
  clear hc1 h hs
  go_wp2
  go_loopw [3, 4] (fun v i wr => ∃ k : Nat, k ≤ 4 * D.length ∧ i = .int .i64 k ∧ v = .int .i64 (lastTo D k) ∧ Chg NoB w wr) (fun _ i _ => 4 * D.length - (intOf i).toNat)
  case atStart => exact ⟨0, Nat.zero_le _, rfl, rfl, HC.out⟩
  case round =>
    obtain ⟨k, hkl, rfl, rfl, hch⟩ := hrel
    by_cases hk : k < 4 * D.length
    · have hi0 : (0 : Int) ≤ (k : Int) := Int.natCast_nonneg _
      have hi1 : (k : Int) < 4 * (D.length : Int) := by omega
      have HCH := Lib.hid hch
      have HP := Lib.hid (readPage_yes HD.out hk)
      have HL := Lib.hid (show lastTo D (k + 1) = max (lastTo D k) (pgAt D k).stamp from rfl)
      clear hch
      go_wp2_with fail
      refine (sReadPage_any _ A c D (k : Int) _ (HR.out.new HCH.out) HS.out).mono ?_
      rintro e w2 ⟨rfl, hc2⟩
      have HCC := Lib.hid ((HCH.out.trans hc2).alloc (pbox (readPage D (k : Int))))
      clear hc2
      go_wp2
      go_roundw
      case rel => exact ⟨k + 1, by omega, by go_num, by rw [HL.out, max_if, HP.out], HCC.out⟩
      case measure => simp [intOf]; omega
    · obtain rfl : k = 4 * D.length := by omega
      have HCH := Lib.hid hch
      have hge : ¬ ((4 * D.length : Nat) : Int) < 4 * (D.length : Int) := by omega
      clear hch
      go_wp2
      go_ret
      exact ⟨ret_int (if_pos HD.out).symm, HCH.out⟩
set_option maxRecDepth 100000 in
set_option maxHeartbeats 1000000 in
theorem iLastStamp_any (F : Nat → Prop) (A : Option Addr) (c : Nat) (D : List Bk) (w : World) (h : DevR F w A D) :
    Calls Try.prog 30 #[.slice A D.length c] w fun e w' => e = .returned (.int .i64 (lastStamp D)) ∧ Chg NoB w w' := by
  by_cases hd : DvOk D
  case neg =>
    have HD := Lib.hid hd
    clear hd
    go_enter Try.func30, Try.ntmps30
    go_wp2_with fail
    refine (iDeviceValid_f _ A c D w h HD.out).mono ?_
    rintro e w1 ⟨rfl, hc1⟩
    have HC := Lib.hid hc1
    clear hc1
    go_wp2
    go_ret
    exact ⟨ret_int (if_neg HD.out).symm, HC.out⟩
  have HD := Lib.hid hd
  have h1 := hd.1.1
  have h2 := hd.1.2
  clear hd
  go_enter Try.func30, Try.ntmps30
  go_wp2_with fail
  refine (iDeviceValid_t _ A c D w h HD.out).mono ?_
  rintro e w1 ⟨rfl, hc1⟩
  have HC := Lib.hid hc1
  have HR := Lib.hid h
  clear hc1 h
  go_wp2
  go_loopw [3, 13] (fun v i wr => ∃ k : Nat, k ≤ D.length ∧ i = .int .i64 k ∧ v = .int .i64 (lastTo D (4 * k)) ∧ Chg NoB w wr) (fun _ i _ => D.length - (intOf i).toNat)
  case atStart => exact ⟨0, Nat.zero_le _, rfl, rfl, HC.out⟩
  case round =>
    obtain ⟨k, hkl, rfl, rfl, hch⟩ := hrel
    obtain ⟨wo, rfl⟩ : ∃ wo : World, wo = wr := ⟨_, rfl⟩
    by_cases hk : k < D.length
    · obtain ⟨bb, o, A', c', rfl, hf, c0, c1, hr, hcc⟩ := (HR.out.new hch) k hk
      have hi0 : (0 : Int) ≤ (k : Int) := Int.natCast_nonneg _
      have hi1 : (k : Int) < (D.length : Int) := by omega
      have h4 : D[k].pages.length = 4 := (HD.out.2 k hk).2.1
      have H4 := Lib.hid h4
      rw [h4] at c1 hcc
      have HCH := Lib.hid (show ∀ q, Chg NoB w (wo.alloc q) from fun q => hch.alloc q)
      have HRD := Lib.hid (show ∀ q, Rd F (wo.alloc q) A' (pgs D[k].pages) from fun q => hr.new ((Chg.refl NoB _).alloc q))
      clear hch hr h4
      go_wp2
      go_loopw [3, 20] (fun v i wi => ∃ j : Nat, j ≤ 4 ∧ i = .int .i64 j ∧ v = .int .i64 (lastTo D (4 * k + j)) ∧ Chg NoB w wi ∧ Rd F wi A' (pgs D[k].pages)) (fun _ i _ => 4 - (intOf i).toNat)
      case atStart => exact ⟨0, Nat.zero_le _, rfl, rfl, HCH.out _, HRD.out _⟩
      case round =>
        obtain ⟨j, hj4, rfl, rfl, hch, hr⟩ := hrel
        by_cases hj : j < 4
        · have hjl : j < D[k].pages.length := by have := H4.out; omega
          obtain ⟨b2, o2, rfl, hf2, hbl2, d0, d1, d2, d3, d4⟩ := pgs_at hr hjl
          have hj0 : (0 : Int) ≤ (j : Int) := Int.natCast_nonneg _
          have hj1 : (j : Int) < 4 := by omega
          have HCI := Lib.hid (hch.alloc (pbox D[k].pages[j]))
          have HRI := Lib.hid (hr.new ((Chg.refl NoB _).alloc (pbox D[k].pages[j])))
          have HL := Lib.hid (show lastTo D (4 * k + (j + 1)) = max (lastTo D (4 * k + j)) D[k].pages[j].stamp by
            rw [← pgAt_eq hk hjl hj]; rfl)
          clear hch hr
          go_wp2
          go_roundw
          case rel => exact ⟨j + 1, by omega, by go_num, by rw [HL.out, max_if], HCI.out, HRI.out⟩
          case measure => simp [intOf]; omega
        · obtain rfl : j = 4 := by omega
          have HCI := Lib.hid hch
          clear hch hr
          go_wp2
          go_roundw
          case rel => exact ⟨k + 1, by omega, by go_num, rfl, HCI.out⟩
          case measure => simp [intOf]; omega
    · obtain rfl : k = D.length := by omega
      have HCH := Lib.hid hch
      clear hch
      go_wp2
      go_ret
      exact ⟨ret_int (if_pos HD.out).symm, HCH.out⟩
end Go.Proofs.Ytenbbkmbnpdfaaa
