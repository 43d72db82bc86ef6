/- BlockNext, writtenPages, FreePages. -/
import Derived.Test.YtenbbkmbnpdfaaaVf
namespace Go.Proofs.Ytenbbkmbnpdfaaa
open Go.RowKit

abbrev bval (b : Bk) (A : Option Addr) (c : Nat) : Value := .agg #[.int .i64 b.wear, .slice A b.pages.length c]
/-- The first n pages are full. -/
def FullTo (ps : List Pg) (n : Nat) : Prop := ∀ k (h : k < ps.length), k < n → ps[k].full = true
theorem FullTo.zero (ps : List Pg) : FullTo ps 0 := fun k _ h => absurd h (Nat.not_lt_zero k)
theorem FullTo.succ {ps : List Pg} {n : Nat} (h : FullTo ps n) (hn : n < ps.length) (h1 : ps[n].full = true) : FullTo ps (n + 1) := fun k hk hkn => by
  by_cases he : k = n
  · subst he; exact h1
  · exact h k hk (by omega)
theorem next_at {b : Bk} (hb : BkOk b) {n : Nat} (hn : n < b.pages.length) (h : FullTo b.pages n) (h2 : b.pages[n].full = false) : next b = (n : Int) := by
  have := lead_eq hn h h2
  unfold next
  rw [this, if_pos ⟨hb, hn⟩]
theorem next_none {b : Bk} {n : Nat} (hn : b.pages.length ≤ n) (h : FullTo b.pages n) : next b = -1 := by
  have := lead_all (ps := b.pages) (fun k hk => h k hk (by omega))
  unfold next
  rw [if_neg (by omega)]
theorem next_bad {b : Bk} (hb : ¬ BkOk b) : next b = -1 := if_neg fun h => hb h.1
set_option maxRecDepth 100000 in
set_option maxHeartbeats 1000000 in
theorem iBlockNext_any (F : Nat → Prop) (A : Option Addr) (c : Nat) (b : Bk) (w : World) (h : Rd F w A (pgs b.pages)) :
    Calls Try.prog 37 #[.agg #[.int .i64 b.wear, .slice A b.pages.length c]] w fun e w' => e = .returned (.int .i64 (next b)) ∧ Chg NoB w w' := by
  have hca := (Chg.refl NoB w).alloc (.cells #[.int .i64 b.wear, .slice A b.pages.length c] 44)
  have HB := Lib.hid (Blk.new w 44 #[.int .i64 b.wear, .slice A b.pages.length c])
  have HC := Lib.hid hca
  have HR := Lib.hid (h.new hca)
  clear hca h
  by_cases hd : BkOk b
  case neg =>
    have HD := Lib.hid hd
    clear hd
    go_enter Try.func37, Try.ntmps37
    go_wp2_with fail
    refine (iBlockValid_f _ A c b _ HR.out HD.out).mono ?_
    rintro e w1 ⟨rfl, hc1⟩
    have HCC := Lib.hid (HC.out.trans hc1)
    clear hc1
    go_wp2
    go_ret
    exact ⟨ret_int (next_bad HD.out).symm, HCC.out⟩
  have HD := Lib.hid hd
  have h4 := hd.2.1
  have H4 := Lib.hid h4
  clear h4 hd
  go_enter Try.func37, Try.ntmps37
  go_wp2_with fail
  refine (iBlockValid_t _ A c b _ HR.out HD.out).mono ?_
  rintro e w1 ⟨rfl, hc1⟩
  have HCC := Lib.hid (HC.out.trans hc1)
  have hb1 := HB.out.chg hc1 (fun x => x)
  have HRR := Lib.hid (HR.out.new hc1)
  rw [H4.out] at hb1 ⊢
  have z1 : w1.cell? ⟨w.heap.size, 1, none⟩ = some (.slice A 4 c) := (hb1.cell _).trans rfl
  clear hc1 hb1
  go_wp2
  go_loopw [11] (fun i wr => ∃ k : Nat, k ≤ 4 ∧ i = .int .i64 k ∧ Chg NoB w wr ∧ Rd F wr A (pgs b.pages) ∧ Hid (FullTo b.pages k)) (fun i _ => 4 - (intOf i).toNat)
  case atStart => exact ⟨0, Nat.zero_le _, rfl, HCC.out, HRR.out, Lib.hid (FullTo.zero _)⟩
  case round =>
    obtain ⟨k, hk4, rfl, hch, hr, hto⟩ := hrel
    by_cases hlt : k < 4
    · have hk : k < b.pages.length := by have := H4.out; omega
      obtain ⟨bb, o, rfl, hf, hbl, c0, c1, c2, c3, c4⟩ := pgs_at hr hk
      have hi0 : (0 : Int) ≤ (k : Int) := Int.natCast_nonneg _
      have hi1 : (k : Int) < 4 := by omega
      have HCH : ∀ q, Hid (Chg NoB w (wr.alloc q)) := fun q => Lib.hid (hch.alloc q)
      have HRD : ∀ q, Hid (Rd F (wr.alloc q) (some ⟨bb, o, none⟩) (pgs b.pages)) := fun q => Lib.hid (hr.new ((Chg.refl NoB wr).alloc q))
      clear hch hr
      by_cases hfull : b.pages[k].full = true
      · have HF := Lib.hid (hto.out.succ hk hfull)
        have hfb : b.pages[k].full = true := hfull
        rw [hfb] at c0
        clear hfull hfb
        go_wp2
        go_roundw
        case rel => exact ⟨k + 1, by omega, by go_num, (HCH _).out, (HRD _).out, Lib.hid HF.out⟩
        case measure => simp [intOf]; omega
      · have hfb : b.pages[k].full = false := by simpa using hfull
        have HF := Lib.hid (next_at HD.out hk hto.out hfb)
        rw [hfb] at c0
        clear hfull hfb
        go_wp2
        go_ret
        exact ⟨ret_int HF.out.symm, (HCH _).out⟩
    · have HCH := Lib.hid hch
      have HE := Lib.hid (next_none (b := b) (n := k) (by have := H4.out; omega) hto.out)
      clear hch hr
      go_wp2
      go_ret
      exact ⟨ret_int HE.out.symm, HCH.out⟩
set_option maxRecDepth 100000 in
set_option maxHeartbeats 1000000 in
theorem sBlockNext_any (F : Nat → Prop) (A : Option Addr) (c : Nat) (b : Bk) (w : World) (h : Rd F w A (pgs b.pages)) (hl : b.pages.length ≤ 9223372036854775807) :
    Calls Try.prog 67 #[.agg #[.int .i64 b.wear, .slice A b.pages.length c]] w fun e w' => e = .returned (.int .i64 (next b)) ∧ Chg NoB w w' := by
  have hca := (Chg.refl NoB w).alloc (.cells #[.int .i64 b.wear, .slice A b.pages.length c] 44)
  have HB := Lib.hid (Blk.new w 44 #[.int .i64 b.wear, .slice A b.pages.length c])
  have HC := Lib.hid hca
  have HR := Lib.hid (h.new hca)
  clear hca h
  go_enter Try.func67, Try.ntmps67
  go_wp2
  go_loopw [3] (fun i wr => ∃ k : Nat, k ≤ b.pages.length ∧ i = .int .i64 k ∧ Chg NoB w wr ∧ Rd F wr A (pgs b.pages) ∧ Blk wr w.heap.size 44 #[.int .i64 b.wear, .slice A b.pages.length c] ∧ Hid (FullTo b.pages k)) (fun i _ => b.pages.length - (intOf i).toNat)
  case atStart => exact ⟨0, Nat.zero_le _, rfl, HC.out, HR.out, HB.out, Lib.hid (FullTo.zero _)⟩
  case round =>
    obtain ⟨k, hkl, rfl, hch, hr, hb, hto⟩ := hrel
    have z0 : wr.cell? ⟨w.heap.size, 0, none⟩ = some (.int .i64 b.wear) := (hb.cell _).trans rfl
    have z1 : wr.cell? ⟨w.heap.size, 1, none⟩ = some (.slice A b.pages.length c) := (hb.cell _).trans rfl
    by_cases hk : k < b.pages.length
    · have hi0 : (0 : Int) ≤ (k : Int) := Int.natCast_nonneg _
      have hi1 : (k : Int) < (b.pages.length : Int) := by omega
      have HCH := Lib.hid hch
      have HRD := Lib.hid hr
      have HBK := Lib.hid hb
      clear hch hr hb
      go_wp2_with fail
      by_cases hd : BkOk b
      · have HD := Lib.hid hd
        clear hd
        refine (sBlockValid_t _ A c b _ HRD.out HD.out).mono ?_
        rintro e w1 ⟨rfl, hc1⟩
        have HCC := Lib.hid (HCH.out.trans hc1)
        have HRR := Lib.hid (HRD.out.new hc1)
        have HBB := Lib.hid (HBK.out.chg hc1 (fun x => x))
        have z1 : w1.cell? ⟨w.heap.size, 1, none⟩ = some (.slice A b.pages.length c) := (HBB.out.cell _).trans rfl
        obtain ⟨bb, o, rfl, hf, hbl, c0, -⟩ := pgs_at HRR.out hk
        clear hc1
        by_cases hfull : b.pages[k].full = true
        · have HF := Lib.hid (hto.out.succ hk hfull)
          rw [hfull] at c0
          clear hfull
          go_wp2
          go_roundw
          case rel => exact ⟨k + 1, by omega, by go_num, HCC.out, HRR.out, HBB.out, Lib.hid HF.out⟩
          case measure => simp [intOf]; omega
        · have hfb : b.pages[k].full = false := by simpa using hfull
          have HF := Lib.hid (next_at HD.out hk hto.out hfb)
          rw [hfb] at c0
          clear hfull hfb
          go_wp2
          go_ret
          exact ⟨ret_int HF.out.symm, HCC.out⟩
      · have HD := Lib.hid hd
        clear hd
        refine (sBlockValid_f _ A c b _ HRD.out hl HD.out).mono ?_
        rintro e w1 ⟨rfl, hc1⟩
        have HCC := Lib.hid (HCH.out.trans hc1)
        clear hc1
        go_wp2
        go_ret
        exact ⟨ret_int (next_bad HD.out).symm, HCC.out⟩
    · have HCH := Lib.hid hch
      have HE := Lib.hid (next_none (b := b) (n := k) (by omega) hto.out)
      clear hch hr hb
      go_wp2
      go_ret
      exact ⟨ret_int HE.out.symm, HCH.out⟩
set_option maxRecDepth 100000 in
set_option maxHeartbeats 1000000 in
theorem writtenPages_any (F : Nat → Prop) (A : Option Addr) (c : Nat) (b : Bk) (w : World) (h : Rd F w A (pgs b.pages)) (hl : b.pages.length ≤ 1000000) :
    Calls Try.prog 60 #[.agg #[.int .i64 b.wear, .slice A b.pages.length c]] w fun e w' => e = .returned (.int .i64 (written b.pages : Nat)) ∧ Chg NoB w w' := by
  have hca := (Chg.refl NoB w).alloc (.cells #[.int .i64 b.wear, .slice A b.pages.length c] 44)
  have HC := Lib.hid hca
  have HR := Lib.hid (h.new hca)
  clear hca h
  go_enter Try.func60, Try.ntmps60
  go_wp2
  go_loopw [3, 9] (fun v i wr => ∃ k : Nat, k ≤ b.pages.length ∧ i = .int .i64 k ∧ v = .int .i64 (written (b.pages.take k) : Nat) ∧ Chg NoB w wr ∧ Rd F wr A (pgs b.pages)) (fun _ i _ => b.pages.length - (intOf i).toNat)
  case atStart => exact ⟨0, Nat.zero_le _, rfl, rfl, HC.out, HR.out⟩
  case round =>
    obtain ⟨k, hkl, rfl, rfl, hch, hr⟩ := hrel
    by_cases hk : k < b.pages.length
    · obtain ⟨bb, o, rfl, hf, hbl, c0, c1, c2, c3, c4⟩ := pgs_at hr hk
      have hi0 : (0 : Int) ≤ (k : Int) := Int.natCast_nonneg _
      have hi1 : (k : Int) < (b.pages.length : Int) := by omega
      have hwl : (written (b.pages.take k) : Int) ≤ 1000000 := by have := written_le (b.pages.take k); rw [List.length_take] at this; omega
      have HCH : ∀ q, Hid (Chg NoB w (wr.alloc q)) := fun q => Lib.hid (hch.alloc q)
      have HRD : ∀ q, Hid (Rd F (wr.alloc q) (some ⟨bb, o, none⟩) (pgs b.pages)) := fun q => Lib.hid (hr.new ((Chg.refl NoB wr).alloc q))
      have HW := Lib.hid (written_take_succ b.pages k hk)
      clear hch hr
      by_cases hfull : b.pages[k].full = true
      · have HW2 := Lib.hid (show written (b.pages.take (k + 1)) = written (b.pages.take k) + 1 by rw [HW.out, if_pos hfull])
        rw [hfull] at c0
        clear hfull
        go_wp2
        go_roundw
        case rel => exact ⟨k + 1, by omega, by go_num, by rw [HW2.out]; exact congrArg _ (by omega), (HCH _).out, (HRD _).out⟩
        case measure => simp [intOf]; omega
      · have HW2 := Lib.hid (show written (b.pages.take (k + 1)) = written (b.pages.take k) by rw [HW.out, if_neg hfull]; rfl)
        have hfb : b.pages[k].full = false := by simpa using hfull
        rw [hfb] at c0
        clear hfull hfb
        go_wp2
        go_roundw
        case rel => exact ⟨k + 1, by omega, by go_num, by rw [HW2.out], (HCH _).out, (HRD _).out⟩
        case measure => simp [intOf]; omega
    · obtain rfl : k = b.pages.length := by omega
      have HCH := Lib.hid hch
      clear hch hr
      go_wp2
      go_ret
      exact ⟨ret_int (by rw [List.take_length]), HCH.out⟩
theorem freeTo_le {D : List Bk} (n : Nat) : freeTo D n ≤ 4 * n := by
  induction n with
  | zero => simp [freeTo]
  | succ n ih => rw [freeTo]; omega
theorem getD_at {D : List Bk} {k : Nat} (h : k < D.length) : D.getD k zBk = D[k] := by
  rw [List.getD_eq_getElem?_getD, List.getElem?_eq_getElem h]; rfl
set_option maxRecDepth 100000 in
set_option maxHeartbeats 1000000 in
theorem iFreePages_any (F : Nat → Prop) (A : Option Addr) (c : Nat) (D : List Bk) (w : World) (h : DevR F w A D) :
    Calls Try.prog 21 #[.slice A D.length c] w fun e w' => e = .returned (.int .i64 (freePages D)) ∧ Chg NoB w w' := by
  by_cases hd : DvOk D
  case neg =>
    have HD := Lib.hid hd
    clear hd
    go_enter Try.func21, Try.ntmps21
    go_wp2_with fail
    refine (iDeviceValid_f _ A c D w h HD.out).mono ?_
    rintro e w1 ⟨rfl, hc1⟩
    have HC := Lib.hid hc1
    clear hc1
    go_wp2
    go_ret
    exact ⟨ret_int (if_neg HD.out).symm, HC.out⟩
  have HD := Lib.hid hd
  have h1 := hd.1.1
  have h2 := hd.1.2
  clear hd
  go_enter Try.func21, Try.ntmps21
  go_wp2_with fail
  refine (iDeviceValid_t _ A c D w h HD.out).mono ?_
  rintro e w1 ⟨rfl, hc1⟩
  have HC := Lib.hid hc1
  have HR := Lib.hid h
  clear hc1 h
  go_wp2
  go_loopw [3, 11] (fun v i wr => ∃ k : Nat, k ≤ D.length ∧ i = .int .i64 k ∧ v = .int .i64 (freeTo D k : Nat) ∧ Chg NoB w wr) (fun _ i _ => D.length - (intOf i).toNat)
  case atStart => exact ⟨0, Nat.zero_le _, rfl, rfl, HC.out⟩
  case round =>
    obtain ⟨k, hkl, rfl, rfl, hch⟩ := hrel
    by_cases hk : k < D.length
    · obtain ⟨bb, o, A', c', rfl, hf, c0, c1, hr, hcc⟩ := (HR.out.new hch) k hk
      have hi0 : (0 : Int) ≤ (k : Int) := Int.natCast_nonneg _
      have hi1 : (k : Int) < (D.length : Int) := by omega
      have HCH := Lib.hid hch
      have HRD := Lib.hid hr
      have hpl : D[k].pages.length = 4 := (HD.out.2 k hk).2.1
      have hw4 : (written D[k].pages : Int) ≤ 4 := by have := written_le D[k].pages; omega
      have hwl : D[k].pages.length ≤ 1000000 := by omega
      have hfl : (freeTo D k : Int) ≤ 48 := by have := freeTo_le (D := D) k; omega
      have HS := Lib.hid (show freeTo D (k + 1) = freeTo D k + (4 - written D[k].pages) by rw [freeTo, getD_at hk])
      clear hch hr hpl
      go_wp2_with fail
      refine (writtenPages_any _ A' c' D[k] _ (HRD.out.new ((Chg.refl NoB wr).alloc _)) hwl).mono ?_
      rintro e w2 ⟨rfl, hc2⟩
      have HCC := Lib.hid ((HCH.out.alloc _).trans hc2)
      clear hc2
      go_wp2
      go_roundw
      case rel => exact ⟨k + 1, by omega, by go_num, by rw [HS.out]; exact congrArg _ (by omega), HCC.out⟩
      case measure => simp [intOf]; omega
    · obtain rfl : k = D.length := by omega
      have HCH := Lib.hid hch
      clear hch
      go_wp2
      go_ret
      exact ⟨ret_int (if_pos HD.out).symm, HCH.out⟩
end Go.Proofs.Ytenbbkmbnpdfaaa
