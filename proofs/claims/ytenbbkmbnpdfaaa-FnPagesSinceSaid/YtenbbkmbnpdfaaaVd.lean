/- BlockValid of the reference. -/
import Derived.Test.YtenbbkmbnpdfaaaVc
namespace Go.Proofs.Ytenbbkmbnpdfaaa
open Go.RowKit

set_option maxRecDepth 100000 in
set_option maxHeartbeats 2000000 in
theorem sBlockValid_any (F : Nat → Prop) (A : Option Addr) (c : Nat) (b : Bk) (w : World) (h : Rd F w A (pgs b.pages)) (hl : b.pages.length ≤ 9223372036854775807) :
    Calls Try.prog 84 #[.agg #[.int .i64 b.wear, .slice A b.pages.length c]] w fun e w' => e = .returned (.bool (decide (BkOk b))) ∧ Chg NoB w w' := by
  obtain ⟨we, ps⟩ := b
  simp only at h hl ⊢
  have hca := (Chg.refl NoB w).alloc (.cells #[.int .i64 we, .slice A ps.length c] 44)
  have HB := Lib.hid (Blk.new w 44 #[.int .i64 we, .slice A ps.length c])
  have HC := Lib.hid hca
  have HR := Lib.hid (h.new hca)
  clear hca h
  go_enter Try.func84, Try.ntmps84
  go_wp2
  go_loopw [3] (fun i wr => ∃ k : Nat, k ≤ ps.length ∧ i = .int .i64 k ∧ Chg NoB w wr ∧ Blk wr w.heap.size 44 #[.int .i64 we, .slice A ps.length c] ∧ Rd F wr A (pgs ps) ∧ Hid (PgsTo ps k)) (fun i _ => ps.length - (intOf i).toNat)
  case atStart => exact ⟨0, Nat.zero_le _, rfl, HC.out, HB.out, HR.out, Lib.hid (PgsTo.zero _)⟩
  case round =>
    obtain ⟨k, hk4, rfl, hch, hb, hr, hto⟩ := hrel
    have z1 : wr.cell? ⟨w.heap.size, 1, none⟩ = some (.slice A ps.length c) := (hb.cell _).trans rfl
    by_cases hk : k < ps.length
    · obtain ⟨bb, o, rfl, hf, hbl, c0, c1, c2, c3, c4⟩ := pgs_at hr hk
      have hi0 : (0 : Int) ≤ (k : Int) := Int.natCast_nonneg _
      have hi1 : (k : Int) < (ps.length : Int) := by omega
      have HCH := Lib.hid hch
      have HBK := Lib.hid hb
      have HRD := Lib.hid hr
      clear hch hb hr
      go_wp2_with fail
      by_cases hp : PgOk ps[k]
      case neg =>
        have HP := Lib.hid hp
        clear hp
        refine (sPageValid_f ps[k] _ HP.out).mono ?_
        rintro e w1 ⟨rfl, hc1⟩
        have HCC := Lib.hid (HCH.out.trans hc1)
        clear hc1
        go_wp2
        go_ret
        exact ⟨ret_bool (decide_eq_false fun hh => HP.out (hh.2.2 k hk).1).symm, HCC.out⟩
      have HP := Lib.hid hp
      clear hp
      refine (sPageValid_t ps[k] _ HP.out).mono ?_
      rintro e w1 ⟨rfl, hc1⟩
      have HCC := Lib.hid (HCH.out.trans hc1)
      have HBB := Lib.hid (HBK.out.chg hc1 (fun x => x))
      have HRR := Lib.hid (HRD.out.new hc1)
      have x0 : w1.cell? ⟨bb, o + k * 5, none⟩ = some (.bool ps[k].full) := hc1.cell c0 (fun x => x)
      have z1 : w1.cell? ⟨w.heap.size, 1, none⟩ = some (.slice (some ⟨bb, o, none⟩) ps.length c) := (HBB.out.cell _).trans rfl
      clear hc1 c0 c1 c2 c3 c4
      rcases k with _ | j
      · go_wp2
        go_roundw
        case rel => exact ⟨1, by omega, by go_num, HCC.out, HBB.out, HRR.out, Lib.hid (hto.out.succ hk HP.out (fun h => by omega))⟩
        case measure => simp [intOf]; omega
      · have hj : j < ps.length := by omega
        have hj1 : (j : Int) < (ps.length : Int) := by omega
        obtain ⟨bb', o', e1, hf', hbl', d0, -⟩ := pgs_at HRR.out hj
        cases e1
        have HG := Lib.hid (getD_pred hj)
        by_cases hfull : ps[j + 1].full = true
        · by_cases hprev : ps[j].full = true
          · have HF := Lib.hid hprev
            rw [hprev] at d0
            rw [hfull] at x0
            clear hfull hprev
            go_wp2
            go_roundw
            case rel => exact ⟨j + 1 + 1, by omega, by go_num, HCC.out, HBB.out, HRR.out, Lib.hid (hto.out.succ hk HP.out (fun _ _ => by rw [HG.out]; exact HF.out))⟩
            case measure => simp [intOf]; omega
          · have hprev' : ps[j].full = false := by simpa using hprev
            have HF := Lib.hid hprev
            have HF2 := Lib.hid hfull
            rw [hprev'] at d0
            rw [hfull] at x0
            clear hfull hprev hprev'
            go_wp2
            go_ret
            exact ⟨ret_bool (decide_eq_false fun hh => HF.out (by rw [← HG.out]; exact (hh.2.2 (j + 1) hk).2 (by omega) HF2.out)).symm, HCC.out⟩
        · have hfull' : ps[j + 1].full = false := by simpa using hfull
          have HF := Lib.hid hfull
          rw [hfull'] at x0
          clear hfull hfull'
          go_wp2
          go_roundw
          case rel => exact ⟨j + 1 + 1, by omega, by go_num, HCC.out, HBB.out, HRR.out, Lib.hid (hto.out.succ hk HP.out (fun _ h => absurd h HF.out))⟩
          case measure => simp [intOf]; omega
    · have z0 : wr.cell? ⟨w.heap.size, 0, none⟩ = some (.int .i64 we) := (hb.cell _).trans rfl
      have HCH := Lib.hid hch
      have HEND := Lib.hid (hto.out.all (by omega))
      clear hch hb hr
      go_wp2_with fail
      by_cases hw : 0 ≤ we ∧ we ≤ 100
      · have HW := Lib.hid hw
        clear hw
        refine (l1In_t _ _ _ _ HW.out).mono ?_
        rintro e w1 ⟨rfl, rfl⟩
        by_cases h4 : ps.length = 4
        · have H4 := Lib.hid h4
          have h4' : ((ps.length : Int) == 4) = true := by rw [beq_iff_eq]; omega
          clear h4
          go_wp2
          go_ret
          exact ⟨ret_bool (decide_eq_true ⟨HW.out, H4.out, HEND.out⟩).symm, HCH.out⟩
        · have H4 := Lib.hid h4
          have h4' : ((ps.length : Int) == 4) = false := by rw [beq_eq_false_iff_ne]; omega
          clear h4
          go_wp2
          go_ret
          exact ⟨ret_bool (decide_eq_false fun hh => H4.out hh.2.1).symm, HCH.out⟩
      · have HW := Lib.hid hw
        clear hw
        refine (l1In_f _ _ _ _ HW.out).mono ?_
        rintro e w1 ⟨rfl, rfl⟩
        go_wp2
        go_ret
        exact ⟨ret_bool (decide_eq_false fun hh => HW.out hh.1).symm, HCH.out⟩
theorem sBlockValid_t (F : Nat → Prop) (A : Option Addr) (c : Nat) (b : Bk) (w : World) (h : Rd F w A (pgs b.pages)) (hb : BkOk b) :
    Calls Try.prog 84 #[.agg #[.int .i64 b.wear, .slice A b.pages.length c]] w fun e w' => e = .returned (.bool true) ∧ Chg NoB w w' :=
  (sBlockValid_any F A c b w h (by rw [hb.2.1]; omega)).mono fun e w' ⟨he, hw⟩ => ⟨by rw [he, decide_eq_true hb], hw⟩
theorem sBlockValid_f (F : Nat → Prop) (A : Option Addr) (c : Nat) (b : Bk) (w : World) (h : Rd F w A (pgs b.pages)) (hl : b.pages.length ≤ 9223372036854775807) (hb : ¬ BkOk b) :
    Calls Try.prog 84 #[.agg #[.int .i64 b.wear, .slice A b.pages.length c]] w fun e w' => e = .returned (.bool false) ∧ Chg NoB w w' :=
  (sBlockValid_any F A c b w h hl).mono fun e w' ⟨he, hw⟩ => ⟨by rw [he, decide_eq_false hb], hw⟩
end Go.Proofs.Ytenbbkmbnpdfaaa
