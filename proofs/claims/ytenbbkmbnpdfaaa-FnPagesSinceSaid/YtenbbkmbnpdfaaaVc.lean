/- BlockValid of the program. -/
import Derived.Test.YtenbbkmbnpdfaaaVb
namespace Go.Proofs.Ytenbbkmbnpdfaaa
open Go.RowKit

theorem bkOk_mk {we : Int} {ps : List Pg} (h1 : 0 ≤ we) (h2 : we ≤ 100) (h3 : ps.length = 4) (h4 : PgsOk ps) : BkOk ⟨we, ps⟩ := ⟨⟨h1, h2⟩, h3, h4⟩
theorem getD_pred {ps : List Pg} {j : Nat} (h : j < ps.length) : ps.getD (j + 1 - 1) zPg = ps[j] := by
  rw [Nat.add_sub_cancel, List.getD_eq_getElem?_getD, List.getElem?_eq_getElem h]; rfl
set_option maxRecDepth 100000 in
set_option maxHeartbeats 2000000 in
theorem iBlockValid_any (F : Nat → Prop) (A : Option Addr) (c : Nat) (b : Bk) (w : World) (h : Rd F w A (pgs b.pages)) :
    Calls Try.prog 59 #[.agg #[.int .i64 b.wear, .slice A b.pages.length c]] w fun e w' => e = .returned (.bool (decide (BkOk b))) ∧ Chg NoB w w' := by
  obtain ⟨we, ps⟩ := b
  simp only at h ⊢
  have hca := (Chg.refl NoB w).alloc (.cells #[.int .i64 we, .slice A ps.length c] 44)
  have HB := Lib.hid (Blk.new w 44 #[.int .i64 we, .slice A ps.length c])
  have HC := Lib.hid hca
  have HR := Lib.hid (h.new hca)
  clear hca h
  by_cases h0 : 0 ≤ we
  case neg =>
    go_enter Try.func59, Try.ntmps59
    go_wp2
    go_ret
    exact ⟨ret_bool (decide_eq_false fun hh => by have h : 0 ≤ we := hh.1.1; omega).symm, HC.out⟩
  by_cases h1 : we ≤ 100
  case neg =>
    go_enter Try.func59, Try.ntmps59
    go_wp2
    go_ret
    exact ⟨ret_bool (decide_eq_false fun hh => by have h : we ≤ 100 := hh.1.2; omega).symm, HC.out⟩
  by_cases h4 : ps.length = 4
  case neg =>
    have h4' : ((ps.length : Int) != 4) = true := by rw [bne_iff_ne]; omega
    go_enter Try.func59, Try.ntmps59
    go_wp2
    go_ret
    exact ⟨ret_bool (decide_eq_false fun hh => h4 hh.2.1).symm, HC.out⟩
  have H4 := Lib.hid h4
  have HW := Lib.hid (fun h4 => bkOk_mk h0 h1 H4.out h4)
  rw [h4] at HB HC HR ⊢
  clear h4
  go_enter Try.func59, Try.ntmps59
  go_wp2
  go_loopw [22] (fun i wr => ∃ k : Nat, k ≤ 4 ∧ i = .int .i64 k ∧ Chg NoB w wr ∧ Blk wr w.heap.size 44 #[.int .i64 we, .slice A 4 c] ∧ Rd F wr A (pgs ps) ∧ Hid (PgsTo ps k)) (fun i _ => 4 - (intOf i).toNat)
  case atStart => exact ⟨0, Nat.zero_le _, rfl, HC.out, HB.out, HR.out, Lib.hid (PgsTo.zero _)⟩
  case round =>
    obtain ⟨k, hk4, rfl, hch, hb, hr, hto⟩ := hrel
    by_cases hlt : k < 4
    · have hk : k < ps.length := by have := H4.out; omega
      obtain ⟨bb, o, rfl, hf, hbl, c0, c1, c2, c3, c4⟩ := pgs_at hr hk
      have hi0 : (0 : Int) ≤ (k : Int) := Int.natCast_nonneg _
      have hi1 : (k : Int) < 4 := by omega
      have HCH := Lib.hid hch
      have HBK := Lib.hid hb
      have HRD := Lib.hid hr
      clear hch hb hr
      go_wp2_with fail
      by_cases hp : PgOk ps[k]
      case neg =>
        have HP := Lib.hid hp
        clear hp
        refine (iPageValid_f ps[k] _ HP.out).mono ?_
        rintro e w1 ⟨rfl, hc1⟩
        have HCC := Lib.hid ((HCH.out.alloc _).trans hc1)
        clear hc1
        go_wp2
        go_ret
        exact ⟨ret_bool (decide_eq_false fun hh => HP.out (hh.2.2 k hk).1).symm, HCC.out⟩
      have HP := Lib.hid hp
      clear hp
      refine (iPageValid_t ps[k] _ HP.out).mono ?_
      rintro e w1 ⟨rfl, hc1⟩
      have hc2 := ((Chg.refl NoB wr).alloc (pbox ps[k])).trans hc1
      have HX := Lib.hid ((Blk.new wr 60 #[.bool ps[k].full, .int .i64 ps[k].file, .int .i64 ps[k].place, .int .i64 ps[k].value, .int .i64 ps[k].stamp]).chg hc1 (fun x => x))
      have HCC := Lib.hid (HCH.out.trans hc2)
      have HBB := Lib.hid (HBK.out.chg hc2 (fun x => x))
      have HRR := Lib.hid (HRD.out.new hc2)
      have x0 : w1.cell? ⟨wr.heap.size, 0, none⟩ = some (.bool ps[k].full) := (HX.out.cell _).trans rfl
      have z1 : w1.cell? ⟨w.heap.size, 1, none⟩ = some (.slice (some ⟨bb, o, none⟩) 4 c) := (HBB.out.cell _).trans rfl
      clear hc1 hc2 c0 c1 c2 c3 c4
      rcases k with _ | j
      · go_wp2
        go_roundw
        case rel => exact ⟨1, by omega, by go_num, HCC.out, HBB.out, HRR.out, Lib.hid (hto.out.succ hk HP.out (fun h => by omega))⟩
        case measure => simp [intOf]
      · have hj : j < ps.length := by omega
        obtain ⟨bb', o', e1, hf', hbl', d0, -⟩ := pgs_at HRR.out hj
        cases e1
        have HG := Lib.hid (getD_pred hj)
        by_cases hfull : ps[j + 1].full = true
        · by_cases hprev : ps[j].full = true
          · have HF := Lib.hid hprev
            rw [hprev] at d0
            rw [hfull] at x0
            clear hfull hprev
            go_wp2
            go_roundw
            case rel => exact ⟨j + 1 + 1, by omega, by go_num, HCC.out, HBB.out, HRR.out, Lib.hid (hto.out.succ hk HP.out (fun _ _ => by rw [HG.out]; exact HF.out))⟩
            case measure => simp [intOf]; omega
          · have hprev' : ps[j].full = false := by simpa using hprev
            have HF := Lib.hid hprev
            have HF2 := Lib.hid hfull
            rw [hprev'] at d0
            rw [hfull] at x0
            clear hfull hprev hprev'
            go_wp2
            go_ret
            exact ⟨ret_bool (decide_eq_false fun hh => HF.out (by rw [← HG.out]; exact (hh.2.2 (j + 1) hk).2 (by omega) HF2.out)).symm, HCC.out⟩
        · have hfull' : ps[j + 1].full = false := by simpa using hfull
          have HF := Lib.hid hfull
          rw [hfull'] at x0
          clear hfull hfull'
          go_wp2
          go_roundw
          case rel => exact ⟨j + 1 + 1, by omega, by go_num, HCC.out, HBB.out, HRR.out, Lib.hid (hto.out.succ hk HP.out (fun _ h => absurd h HF.out))⟩
          case measure => simp [intOf]; omega
    · have HCH := Lib.hid hch
      have HEND := Lib.hid (HW.out (hto.out.all (by have := H4.out; omega)))
      clear hch hb hr
      go_wp2
      go_ret
      exact ⟨ret_bool (decide_eq_true HEND.out).symm, HCH.out⟩
theorem iBlockValid_t (F : Nat → Prop) (A : Option Addr) (c : Nat) (b : Bk) (w : World) (h : Rd F w A (pgs b.pages)) (hb : BkOk b) :
    Calls Try.prog 59 #[.agg #[.int .i64 b.wear, .slice A b.pages.length c]] w fun e w' => e = .returned (.bool true) ∧ Chg NoB w w' :=
  (iBlockValid_any F A c b w h).mono fun e w' ⟨he, hw⟩ => ⟨by rw [he, decide_eq_true hb], hw⟩
theorem iBlockValid_f (F : Nat → Prop) (A : Option Addr) (c : Nat) (b : Bk) (w : World) (h : Rd F w A (pgs b.pages)) (hb : ¬ BkOk b) :
    Calls Try.prog 59 #[.agg #[.int .i64 b.wear, .slice A b.pages.length c]] w fun e w' => e = .returned (.bool false) ∧ Chg NoB w w' :=
  (iBlockValid_any F A c b w h).mono fun e w' ⟨he, hw⟩ => ⟨by rw [he, decide_eq_false hb], hw⟩
end Go.Proofs.Ytenbbkmbnpdfaaa
