/- Parts of the proof, merged: Uf. -/
import Derived.Test.YtpiojofmflfkkaaMv
import Derived.Test.YtpiojofmflfkkaaMh
/- The law FnRollForward: the walk. -/
namespace Go.Proofs.Ytpiojofmflfkkaa
open Go.RowKit
set_option maxRecDepth 100000 in
set_option maxHeartbeats 16000000 in
theorem FnRollForward_any (A : Option Addr) (c : Nat) (bs : List Nat) (w : World) (h : Rd (fun i => i < w.heap.size) w A (bs.map fun (b : Nat) => Value.int .u8 (b : Int))) (hx : ∀ b ∈ bs, b < 256) (hc : bs.length ≤ c) (_hm : c ≤ maxLen) :
    Calls Try.prog 9 #[.slice A bs.length c] w fun e w' => e = .returned (.bool true) ∧ Chg NoB w w' := by
  by_cases hl : 1048576 < bs.length
  · go_enter Try.func9, Try.ntmps9
    go_wp2
    go_ret
    exact ⟨rfl, Chg.refl _ _⟩
  have hl' : bs.length ≤ 1048576 := by omega
  go_enter Try.func9, Try.ntmps9
  go_wp2_with fail
  refine (DrawRollForward_any A c bs w h hx hc).mono ?_
  rintro e w1 ⟨Ad, cd, D, At, ct, X, x, rfl, ⟨hD, hDc, h13, h4⟩, ⟨hT, hX8, hX6⟩, hc1⟩
  have HSM := Lib.hid (small13 h13 h4)
  have HXB := Lib.hid (show X.length ≤ 9223372036854775807 ∧ ∀ r ∈ X, r.length ≤ 9223372036854775807 from ⟨by omega, fun r hr => by have := hX6 r hr; omega⟩)
  obtain ⟨Y, hY⟩ : ∃ Y, rollForward D X x = Y := ⟨_, rfl⟩
  have HYE := Lib.hid hY
  have HYS := Lib.hid (show total Y ≤ 1048576 ∧ Y.length ≤ 9223372036854775807 ∧ ∀ r ∈ Y, r.length ≤ 9223372036854775807 by rw [← hY]; exact rollForward_small D X x)
  clear h hx hc h4 h13 hl hX8 hX6 hY
  have HCH := Lib.hid hc1
  have HD := Lib.hid hD
  have HT := Lib.hid hT
  clear hD hT hc1
  go_wp2_with fail
  obtain ⟨w11, hw11⟩ : ∃ w11, w1.alloc (.cells #[.slice At X.length ct] 31) = w11 := ⟨_, rfl⟩
  try rw [hw11]
  have q12 : Chg NoB w1 w11 := by rw [← hw11]; exact (Chg.refl _ _).alloc _
  have bq12 : Blk w11 w1.heap.size 31 #[.slice At X.length ct] := by rw [← hw11]; exact Blk.new _ _ _
  have sq12 : w11.heap.size = w1.heap.size + 1 := by rw [← hw11]; exact World.size_alloc ..
  clear hw11
  replace HCH := Lib.hid (HCH.out.trans q12)
  replace HD := Lib.hid (HD.out.new q12)
  replace HT := Lib.hid (HT.out.new q12)
  have S13 := Lib.hid q12.size
  have S14 := Lib.hid sq12
  have HB_t := Lib.hid bq12
  have z_t_0 : w11.cell? ⟨w1.heap.size, 0, none⟩ = some (.slice At X.length ct) := (HB_t.out.cell _).trans rfl
  clear q12 sq12 bq12
  refine (iRollForward_any _ _ _ _ D _ _ X x _ HD.out HT.out).mono ?_
  rintro e w15 ⟨Ay, cy, Ty, rfl, hXy, hc16, hOy⟩
  replace HCH := Lib.hid (HCH.out.trans hc16)
  replace HB_t := Lib.hid (HB_t.out.chg hc16 (fun x => x))
  replace z_t_0 := Chg.cell hc16 z_t_0 (fun x => x)
  replace HD := Lib.hid (HD.out.new hc16)
  replace HT := Lib.hid (HT.out.new hc16)
  have S17 := Lib.hid hc16.size
  rw [HYE.out] at hXy ⊢
  have hRy := hOy.reads
  rw [hXy] at hRy
  have RY := Lib.hid hRy
  clear hRy hOy hc16 hXy
  have zz_t_0 := Chg.cell ((Chg.refl NoB w15).alloc (.cells #[.slice Ay Y.length cy] 31)) z_t_0 (fun x => x)
  go_wp2_with fail
  clear zz_t_0
  obtain ⟨w18, hw18⟩ : ∃ w18, w15.alloc (.cells #[.slice Ay Y.length cy] 31) = w18 := ⟨_, rfl⟩
  try rw [hw18]
  have q19 : Chg NoB w15 w18 := by rw [← hw18]; exact (Chg.refl _ _).alloc _
  have bq19 : Blk w18 w15.heap.size 31 #[.slice Ay Y.length cy] := by rw [← hw18]; exact Blk.new _ _ _
  have sq19 : w18.heap.size = w15.heap.size + 1 := by rw [← hw18]; exact World.size_alloc ..
  clear hw18
  replace HCH := Lib.hid (HCH.out.trans q19)
  replace HB_t := Lib.hid (HB_t.out.chg q19 (fun x => x))
  replace z_t_0 := Chg.cell q19 z_t_0 (fun x => x)
  replace HD := Lib.hid (HD.out.new q19)
  replace HT := Lib.hid (HT.out.new q19)
  replace RY := Lib.hid (RY.out.new q19)
  have S20 := Lib.hid q19.size
  have S21 := Lib.hid sq19
  have HB_y := Lib.hid bq19
  have z_y_0 : w18.cell? ⟨w15.heap.size, 0, none⟩ = some (.slice Ay Y.length cy) := (HB_y.out.cell _).trans rfl
  clear q19 sq19 bq19
  have hdr : Chg NoB w18 w18.drew := (Chg.refl NoB w18).drew
  have HDR := Lib.hid hdr
  clear hdr
  go_region_held3 (fun w' => w'.cell? ⟨w1.heap.size, 0, none⟩ = some (.slice At X.length ct) ∧ w'.cell? ⟨w15.heap.size, 0, none⟩ = some (.slice Ay Y.length cy))
    (first | go_keep | exact ⟨hcc.cell (by assumption) (fun x => x), hcc.cell (by assumption) (fun x => x)⟩ | exact ⟨(HK.out.trans hcc).cell (by assumption) (fun x => x), (HK.out.trans hcc).cell (by assumption) (fun x => x)⟩)
    (first
      | (go_at_call 51; refine (sRollForward_any _ _ _ _ D _ _ X x _ (HD.out.new HDR.out) HSM.out (HT.out.new HDR.out) HXB.out.1 HXB.out.2).mono ?_; rintro e' wt ⟨Au, cu, Tu, rfl, hTu, hcc, hOu⟩; rw [HYE.out] at hTu ⊢; have HK := Lib.hid hcc; have HRU := Lib.hid (show TabR _ wt Au Y from hTu ▸ hOu.reads))
      | (go_at_call 14; refine (sameTable_t _ _ _ _ _ _ Y _ ((RY.out.new HDR.out).new HK.out) HRU.out HYS.out.2.1 HYS.out.2.2).mono ?_; rintro e' we ⟨rfl, hcc⟩))
  have hrg : Chg NoB w18 we := (HDR.out.trans HK.out).trans hcc
  replace HCH := Lib.hid (HCH.out.trans hrg)
  replace HB_t := Lib.hid (HB_t.out.chg hrg (fun x => x))
  replace z_t_0 := Chg.cell hrg z_t_0 (fun x => x)
  replace HB_y := Lib.hid (HB_y.out.chg hrg (fun x => x))
  replace z_y_0 := Chg.cell hrg z_y_0 (fun x => x)
  replace HD := Lib.hid (HD.out.new hrg)
  replace HT := Lib.hid (HT.out.new hrg)
  replace RY := Lib.hid (RY.out.new hrg)
  have S22 := Lib.hid hrg.size
  clear hrg hcc HK HRU HDR hTu hOu
  by_cases hd : DvOk D
  case neg =>
    have HDV := Lib.hid hd
    have HNO := Lib.hid (show DvOk D → tabOk X → False from fun h _ => hd h)
    clear hd
    go_wp2_with fail
    refine (iDeviceValid_f _ Ad cd D _ HD.out HDV.out).mono ?_
    rintro e w23 ⟨rfl, hc24⟩
    replace HCH := Lib.hid (HCH.out.trans hc24)
    replace HB_t := Lib.hid (HB_t.out.chg hc24 (fun x => x))
    replace z_t_0 := Chg.cell hc24 z_t_0 (fun x => x)
    replace HB_y := Lib.hid (HB_y.out.chg hc24 (fun x => x))
    replace z_y_0 := Chg.cell hc24 z_y_0 (fun x => x)
    replace HD := Lib.hid (HD.out.new hc24)
    replace HT := Lib.hid (HT.out.new hc24)
    replace RY := Lib.hid (RY.out.new hc24)
    have S25 := Lib.hid hc24.size
    clear hc24
    obtain rfl : Y = [] := by rw [← HYE.out]; exact if_neg (fun hh => HNO.out hh.1 hh.2)
    go_wp2_with fail
    refine (sameTable_t _ _ _ _ _ _ [] _ RY.out (show TabR NoB _ none [] from fun k hk => absurd hk (Nat.not_lt_zero k)) (by simp) (by simp)).mono ?_
    rintro e w26 ⟨rfl, hc27⟩
    replace HCH := Lib.hid (HCH.out.trans hc27)
    replace HB_t := Lib.hid (HB_t.out.chg hc27 (fun x => x))
    replace z_t_0 := Chg.cell hc27 z_t_0 (fun x => x)
    replace HB_y := Lib.hid (HB_y.out.chg hc27 (fun x => x))
    replace z_y_0 := Chg.cell hc27 z_y_0 (fun x => x)
    replace HD := Lib.hid (HD.out.new hc27)
    replace HT := Lib.hid (HT.out.new hc27)
    replace RY := Lib.hid (RY.out.new hc27)
    have S28 := Lib.hid hc27.size
    clear hc27
    go_wp2_with fail
    refine (alive_any _).mono ?_
    rintro e w' ⟨rfl, rfl⟩
    go_wp2
    go_ret
    exact ⟨rfl, HCH.out⟩
  have HDV := Lib.hid hd
  clear hd
  go_wp2_with fail
  refine (iDeviceValid_t _ Ad cd D _ HD.out HDV.out).mono ?_
  rintro e w29 ⟨rfl, hc30⟩
  replace HCH := Lib.hid (HCH.out.trans hc30)
  replace HB_t := Lib.hid (HB_t.out.chg hc30 (fun x => x))
  replace z_t_0 := Chg.cell hc30 z_t_0 (fun x => x)
  replace HB_y := Lib.hid (HB_y.out.chg hc30 (fun x => x))
  replace z_y_0 := Chg.cell hc30 z_y_0 (fun x => x)
  replace HD := Lib.hid (HD.out.new hc30)
  replace HT := Lib.hid (HT.out.new hc30)
  replace RY := Lib.hid (RY.out.new hc30)
  have S31 := Lib.hid hc30.size
  clear hc30
  go_wp2_with fail
  refine (iTableValid_any _ At ct X _ HT.out).mono ?_
  rintro e w32 ⟨bx, rfl, hbx, hc33⟩
  replace HCH := Lib.hid (HCH.out.trans hc33)
  replace HB_t := Lib.hid (HB_t.out.chg hc33 (fun x => x))
  replace z_t_0 := Chg.cell hc33 z_t_0 (fun x => x)
  replace HB_y := Lib.hid (HB_y.out.chg hc33 (fun x => x))
  replace z_y_0 := Chg.cell hc33 z_y_0 (fun x => x)
  replace HD := Lib.hid (HD.out.new hc33)
  replace HT := Lib.hid (HT.out.new hc33)
  replace RY := Lib.hid (RY.out.new hc33)
  have S34 := Lib.hid hc33.size
  clear hc33
  cases bx
  case false =>
    have HNO := Lib.hid (show DvOk D → tabOk X → False from fun _ h => by have := hbx.2 h; cases this)
    clear hbx
    obtain rfl : Y = [] := by rw [← HYE.out]; exact if_neg (fun hh => HNO.out hh.1 hh.2)
    go_wp2_with fail
    refine (sameTable_t _ _ _ _ _ _ [] _ RY.out (show TabR NoB _ none [] from fun k hk => absurd hk (Nat.not_lt_zero k)) (by simp) (by simp)).mono ?_
    rintro e w35 ⟨rfl, hc36⟩
    replace HCH := Lib.hid (HCH.out.trans hc36)
    replace HB_t := Lib.hid (HB_t.out.chg hc36 (fun x => x))
    replace z_t_0 := Chg.cell hc36 z_t_0 (fun x => x)
    replace HB_y := Lib.hid (HB_y.out.chg hc36 (fun x => x))
    replace z_y_0 := Chg.cell hc36 z_y_0 (fun x => x)
    replace HD := Lib.hid (HD.out.new hc36)
    replace HT := Lib.hid (HT.out.new hc36)
    replace RY := Lib.hid (RY.out.new hc36)
    have S37 := Lib.hid hc36.size
    clear hc36
    go_wp2_with fail
    refine (alive_any _).mono ?_
    rintro e w' ⟨rfl, rfl⟩
    go_wp2
    go_ret
    exact ⟨rfl, HCH.out⟩
  have HOK := Lib.hid (hbx.1 rfl)
  clear hbx
  have HYOK := Lib.hid (show tabOk Y by rw [← HYE.out]; exact rollForward_ok HDV.out HOK.out)
  go_wp2_with fail
  refine (iPagesSince_any _ Ad cd D x _ HD.out).mono ?_
  rintro e w38 ⟨Al, cl, rfl, hol, hc39⟩
  replace HCH := Lib.hid (HCH.out.trans hc39)
  replace HB_t := Lib.hid (HB_t.out.chg hc39 (fun x => x))
  replace z_t_0 := Chg.cell hc39 z_t_0 (fun x => x)
  replace HB_y := Lib.hid (HB_y.out.chg hc39 (fun x => x))
  replace z_y_0 := Chg.cell hc39 z_y_0 (fun x => x)
  replace HD := Lib.hid (HD.out.new hc39)
  replace HT := Lib.hid (HT.out.new hc39)
  replace RY := Lib.hid (RY.out.new hc39)
  have S40 := Lib.hid hc39.size
  obtain ⟨L, hLe⟩ : ∃ L, pagesSince D x = L := ⟨_, rfl⟩
  have HLE := Lib.hid hLe
  have HLL := Lib.hid (show L.length ≤ 48 by rw [← hLe]; exact pagesSince_len D x)
  rw [hLe] at hol ⊢
  have HOL := Lib.hid hol
  have hl48 := HLL.out
  clear hc39 hol hLe
  have HRL := Lib.hid (show Rd _ w38 Al (icells (L.map fun (n : Nat) => (n : Int))) by rw [← rowc_icells]; exact HOL.out.rd)
  obtain ⟨wl, hwl⟩ : ∃ wl, w38 = wl := ⟨_, rfl⟩
  obtain ⟨TB, hTB⟩ : ∃ TB, w1.heap.size = TB := ⟨_, rfl⟩
  obtain ⟨YB, hYB⟩ : ∃ YB, w15.heap.size = YB := ⟨_, rfl⟩
  rw [hwl] at HCH HD HT RY HOL HRL z_t_0 z_y_0 ⊢
  try rw [hTB] at z_t_0 ⊢
  try rw [hYB] at z_y_0 ⊢
  clear hwl hTB hYB HB_t HB_y S13 S14 S17 S20 S21 S22 S31 S34 S40
  go_wp2_with fail
  go_loopw [8] (fun i wr => ∃ f : Nat, f ≤ 8 ∧ i = .int .i64 f ∧ Chg NoB wl wr) (fun i _ => 8 - (intOf i).toNat)
  case atStart => exact ⟨0, Nat.zero_le _, rfl, Chg.refl _ _⟩
  case round =>
    obtain ⟨f, hf8, rfl, hcr⟩ := hrel
    have HCR := Lib.hid hcr
    by_cases hf : f < 8
    case neg =>
      have hf' : ¬ ((f : Int) < 8) := by omega
      have s1 := hcr.cell z_y_0 (fun x => x)
      have HRYR := Lib.hid (RY.out.new hcr)
      clear hcr
      go_wp2_with fail
      refine (iTableValid_any _ Ay cy Y _ HRYR.out).mono ?_
      rintro e wk ⟨bz, rfl, hbz, hck⟩
      obtain rfl : bz = true := hbz.2 HYOK.out
      have HCK := Lib.hid ((HCH.out.trans HCR.out).trans hck)
      clear hck hbz
      go_wp2
      go_ret
      exact ⟨rfl, HCK.out⟩
    have hf' : (f : Int) < 8 := by omega
    clear hcr
    go_wp2_with fail
    go_loopw [9] (fun i wi => ∃ p : Nat, p ≤ 6 ∧ i = .int .i64 p ∧ Chg NoB wl wi) (fun i _ => 6 - (intOf i).toNat)
    case atStart => exact ⟨0, Nat.zero_le _, rfl, HCR.out⟩
    case round =>
      obtain ⟨p, hp6, rfl, hci⟩ := hrel
      have HCI := Lib.hid hci
      by_cases hp : p < 6
      case neg =>
        have hp' : ¬ ((p : Int) ≤ 5) := by omega
        clear hci
        go_wp2
        go_roundw
        case rel => exact ⟨f + 1, by omega, by go_num, HCI.out⟩
        case measure => simp [intOf]; omega
      have hp' : (p : Int) ≤ 5 := by omega
      have s0 := hci.cell z_t_0 (fun x => x)
      have HTI := Lib.hid (HT.out.new hci)
      have HRPL0 := Lib.hid (show tget Y f p = lw D L f p (if tget X f p ∈ L.map (fun (n : Nat) => (n : Int)) then -1 else tget X f p) L.length by rw [← HYE.out, ← HLE.out]; exact roll_place HDV.out HOK.out hf hp)
      clear hci
      go_wp2_with fail
      refine (iTableGetT_any _ At ct X _ HTI.out HOK.out f p hf hp).mono ?_
      rintro e wk ⟨rfl, hck⟩
      obtain ⟨v0, hv0⟩ : ∃ z, tget X f p = z := ⟨_, rfl⟩
      rw [hv0] at HRPL0 ⊢
      have HCK := Lib.hid (HCI.out.trans hck)
      have HHI := Lib.hid (show Calls Try.prog 55 #[.slice Al L.length cl, .int .i64 v0] wk (HasI wk (L.map fun (n : Nat) => (n : Int)) v0) from by
        have := hasInt_any _ Al cl (L.map fun (n : Nat) => (n : Int)) v0 wk (HRL.out.new HCK.out) (by rw [List.length_map]; omega)
        rwa [List.length_map] at this)
      clear hck hv0 s0
      go_wp2_with fail
      refine HHI.out.mono ?_
      rintro e wp ⟨b, rfl, hb, rfl⟩
      have HCP := HCK
      cases b
      case true =>
        have HRPL := Lib.hid (show tget Y f p = lw D L f p (-1) L.length by rw [HRPL0.out, if_pos (hb.1 rfl)])
        clear hb HRPL0 HHI
        go_wp2_with fail
        go_loopw [10, 11] (fun u i wj => ∃ k : Nat, k ≤ L.length ∧ i = .int .i64 k ∧ u = .int .i64 (lw D L f p (-1) k) ∧ Chg NoB wl wj) (fun _ i _ => L.length - (intOf i).toNat)
        case atStart => exact ⟨0, Nat.zero_le _, rfl, rfl, HCP.out⟩
        case round =>
          obtain ⟨k, hk, rfl, rfl, hcj⟩ := hrel
          have HCJ := Lib.hid hcj
          have s0 := hcj.cell z_t_0 (fun x => x)
          have s1 := hcj.cell z_y_0 (fun x => x)
          by_cases hlt : k < L.length
          case neg =>
            obtain rfl : k = L.length := by omega
            have hlt' : ¬ ((L.length : Int) < (L.length : Int)) := by omega
            have HRYJ := Lib.hid (RY.out.new hcj)
            obtain ⟨z, hz⟩ : ∃ z, lw D L f p (-1) L.length = z := ⟨_, rfl⟩
            have HZ := Lib.hid (HRPL.out.trans hz)
            rw [hz]
            have hzz : (z != z) = false := by simp
            clear hcj hz
            go_wp2_with fail
            refine (iTableGetT_any _ Ay cy Y _ HRYJ.out HYOK.out f p hf hp).mono ?_
            rw [HZ.out]
            rintro e wk ⟨rfl, hck⟩
            have HCK := Lib.hid (HCJ.out.trans hck)
            clear hck
            go_wp2
            go_roundw
            case rel => exact ⟨p + 1, by omega, by go_num, HCK.out⟩
            case measure => simp [intOf]; omega
          have hol := HOL.out.new hcj
          rcases hol.2 with ⟨h0, _⟩ | ⟨gl, rest, rfl, hg, hgE, hbl⟩
          · omega
          have hm := getD_mem hlt
          obtain ⟨q, hq⟩ : ∃ q, L.getD k 0 = q := ⟨_, rfl⟩
          rw [hq] at hm
          obtain ⟨hdv, hx4, hxf, hxs⟩ := ps_good (D := D) (s := x) (x := q) (by rw [HLE.out]; exact hm)
          have cx := RowB.get hbl hlt
          rw [hq] at cx
          have HRP := Lib.hid (readPage_yes hdv hx4)
          have HQF := Lib.hid hxf
          have HNX := Lib.hid (show lw D L f p (-1) (k + 1) = if hitB D f p q then (q : Int) else lw D L f p (-1) k by rw [← hq]; rfl)
          have HDJ := Lib.hid (HD.out.new hcj)
          have hi0 : (0 : Int) ≤ (k : Int) := Int.natCast_nonneg _
          have hi1 : (k : Int) < (L.length : Int) := by omega
          obtain ⟨z, hz⟩ : ∃ z, lw D L f p (-1) k = z := ⟨_, rfl⟩
          rw [hz] at HNX ⊢
          clear hcj hol hbl hg hgE hm hq hdv hx4 hxf hxs hz
          go_wp2_with fail
          refine (iReadPage_any _ Ad cd D (q : Int) _ HDJ.out).mono ?_
          rw [HRP.out]
          rintro e wk ⟨rfl, hck⟩
          have hfx := HQF.out
          have hca := (Chg.refl NoB wk).alloc (.cells #[.bool true, .int .i64 (pgAt D q).file, .int .i64 (pgAt D q).place, .int .i64 (pgAt D q).value, .int .i64 (pgAt D q).stamp] 80)
          have hbx := Blk.new wk 80 #[.bool true, .int .i64 (pgAt D q).file, .int .i64 (pgAt D q).place, .int .i64 (pgAt D q).value, .int .i64 (pgAt D q).stamp]
          have x1 := hbx.cell 1
          have x2 := hbx.cell 2
          replace x1 := x1.trans (show _ = some (Value.int .i64 (pgAt D q).file) from rfl)
          replace x2 := x2.trans (show _ = some (Value.int .i64 (pgAt D q).place) from rfl)
          have cx6 := (hck.trans hca).cell cx (fun x => x)
          have HC6 := Lib.hid ((HCJ.out.trans hck).trans hca)
          clear hck hca hbx cx
          obtain ⟨qf, hqf⟩ : ∃ z, (pgAt D q).file = z := ⟨_, rfl⟩
          obtain ⟨qp, hqp⟩ : ∃ z, (pgAt D q).place = z := ⟨_, rfl⟩
          have HHB := Lib.hid (show hitB D f p q ↔ (qf = (f : Int) ∧ qp = (p : Int)) by unfold hitB; rw [hqf, hqp])
          have hpv : pval (pgAt D q) = .agg #[.bool true, .int .i64 qf, .int .i64 qp, .int .i64 (pgAt D q).value, .int .i64 (pgAt D q).stamp] := by unfold pval; rw [hfx, hqf, hqp]
          try rw [hpv]
          rw [hqf, hqp] at x1 x2 cx6 HC6
          clear hfx hpv hqf hqp HRP
          by_cases hfe : qf = (f : Int)
          case neg =>
            have hbe : (qf == (f : Int)) = false := beq_eq_false_iff_ne.2 hfe
            have HN := Lib.hid (HNX.out.trans (if_neg (fun hh => hfe (HHB.out.1 hh).1)))
            clear hfe
            go_wp2_with fail
            go_roundw
            case rel => exact ⟨k + 1, by omega, by go_num, by rw [HN.out], HC6.out⟩
            case measure => simp [intOf]; omega
          have hbe : (qf == (f : Int)) = true := beq_iff_eq.2 hfe
          by_cases hpe : qp = (p : Int)
          case neg =>
            have hbp : (qp == (p : Int)) = false := beq_eq_false_iff_ne.2 hpe
            have HN := Lib.hid (HNX.out.trans (if_neg (fun hh => hpe (HHB.out.1 hh).2)))
            clear hfe hpe
            go_wp2_with fail
            go_roundw
            case rel => exact ⟨k + 1, by omega, by go_num, by rw [HN.out], HC6.out⟩
            case measure => simp [intOf]; omega
          have hbp : (qp == (p : Int)) = true := beq_iff_eq.2 hpe
          have HN := Lib.hid (HNX.out.trans (if_pos (HHB.out.2 ⟨hfe, hpe⟩)))
          clear hfe hpe
          go_wp2_with fail
          go_roundw
          case rel => exact ⟨k + 1, by omega, by go_num, by rw [HN.out], HC6.out⟩
          case measure => simp [intOf]; omega
      have HRPL := Lib.hid (show tget Y f p = lw D L f p v0 L.length by rw [HRPL0.out, if_neg (fun hh => by have := hb.2 hh; cases this)])
      clear hb HRPL0 HHI
      go_wp2_with fail
      go_loopw [10, 11] (fun u i wj => ∃ k : Nat, k ≤ L.length ∧ i = .int .i64 k ∧ u = .int .i64 (lw D L f p v0 k) ∧ Chg NoB wl wj) (fun _ i _ => L.length - (intOf i).toNat)
      case atStart => exact ⟨0, Nat.zero_le _, rfl, rfl, HCP.out⟩
      case round =>
        obtain ⟨k, hk, rfl, rfl, hcj⟩ := hrel
        have HCJ := Lib.hid hcj
        have s0 := hcj.cell z_t_0 (fun x => x)
        have s1 := hcj.cell z_y_0 (fun x => x)
        by_cases hlt : k < L.length
        case neg =>
          obtain rfl : k = L.length := by omega
          have hlt' : ¬ ((L.length : Int) < (L.length : Int)) := by omega
          have HRYJ := Lib.hid (RY.out.new hcj)
          obtain ⟨z, hz⟩ : ∃ z, lw D L f p v0 L.length = z := ⟨_, rfl⟩
          have HZ := Lib.hid (HRPL.out.trans hz)
          rw [hz]
          have hzz : (z != z) = false := by simp
          clear hcj hz
          go_wp2_with fail
          refine (iTableGetT_any _ Ay cy Y _ HRYJ.out HYOK.out f p hf hp).mono ?_
          rw [HZ.out]
          rintro e wk ⟨rfl, hck⟩
          have HCK := Lib.hid (HCJ.out.trans hck)
          clear hck
          go_wp2
          go_roundw
          case rel => exact ⟨p + 1, by omega, by go_num, HCK.out⟩
          case measure => simp [intOf]; omega
        have hol := HOL.out.new hcj
        rcases hol.2 with ⟨h0, _⟩ | ⟨gl, rest, rfl, hg, hgE, hbl⟩
        · omega
        have hm := getD_mem hlt
        obtain ⟨q, hq⟩ : ∃ q, L.getD k 0 = q := ⟨_, rfl⟩
        rw [hq] at hm
        obtain ⟨hdv, hx4, hxf, hxs⟩ := ps_good (D := D) (s := x) (x := q) (by rw [HLE.out]; exact hm)
        have cx := RowB.get hbl hlt
        rw [hq] at cx
        have HRP := Lib.hid (readPage_yes hdv hx4)
        have HQF := Lib.hid hxf
        have HNX := Lib.hid (show lw D L f p v0 (k + 1) = if hitB D f p q then (q : Int) else lw D L f p v0 k by rw [← hq]; rfl)
        have HDJ := Lib.hid (HD.out.new hcj)
        have hi0 : (0 : Int) ≤ (k : Int) := Int.natCast_nonneg _
        have hi1 : (k : Int) < (L.length : Int) := by omega
        obtain ⟨z, hz⟩ : ∃ z, lw D L f p v0 k = z := ⟨_, rfl⟩
        rw [hz] at HNX ⊢
        clear hcj hol hbl hg hgE hm hq hdv hx4 hxf hxs hz
        go_wp2_with fail
        refine (iReadPage_any _ Ad cd D (q : Int) _ HDJ.out).mono ?_
        rw [HRP.out]
        rintro e wk ⟨rfl, hck⟩
        have hfx := HQF.out
        have hca := (Chg.refl NoB wk).alloc (.cells #[.bool true, .int .i64 (pgAt D q).file, .int .i64 (pgAt D q).place, .int .i64 (pgAt D q).value, .int .i64 (pgAt D q).stamp] 80)
        have hbx := Blk.new wk 80 #[.bool true, .int .i64 (pgAt D q).file, .int .i64 (pgAt D q).place, .int .i64 (pgAt D q).value, .int .i64 (pgAt D q).stamp]
        have x1 := hbx.cell 1
        have x2 := hbx.cell 2
        replace x1 := x1.trans (show _ = some (Value.int .i64 (pgAt D q).file) from rfl)
        replace x2 := x2.trans (show _ = some (Value.int .i64 (pgAt D q).place) from rfl)
        have cx6 := (hck.trans hca).cell cx (fun x => x)
        have HC6 := Lib.hid ((HCJ.out.trans hck).trans hca)
        clear hck hca hbx cx
        obtain ⟨qf, hqf⟩ : ∃ z, (pgAt D q).file = z := ⟨_, rfl⟩
        obtain ⟨qp, hqp⟩ : ∃ z, (pgAt D q).place = z := ⟨_, rfl⟩
        have HHB := Lib.hid (show hitB D f p q ↔ (qf = (f : Int) ∧ qp = (p : Int)) by unfold hitB; rw [hqf, hqp])
        have hpv : pval (pgAt D q) = .agg #[.bool true, .int .i64 qf, .int .i64 qp, .int .i64 (pgAt D q).value, .int .i64 (pgAt D q).stamp] := by unfold pval; rw [hfx, hqf, hqp]
        try rw [hpv]
        rw [hqf, hqp] at x1 x2 cx6 HC6
        clear hfx hpv hqf hqp HRP
        by_cases hfe : qf = (f : Int)
        case neg =>
          have hbe : (qf == (f : Int)) = false := beq_eq_false_iff_ne.2 hfe
          have HN := Lib.hid (HNX.out.trans (if_neg (fun hh => hfe (HHB.out.1 hh).1)))
          clear hfe
          go_wp2_with fail
          go_roundw
          case rel => exact ⟨k + 1, by omega, by go_num, by rw [HN.out], HC6.out⟩
          case measure => simp [intOf]; omega
        have hbe : (qf == (f : Int)) = true := beq_iff_eq.2 hfe
        by_cases hpe : qp = (p : Int)
        case neg =>
          have hbp : (qp == (p : Int)) = false := beq_eq_false_iff_ne.2 hpe
          have HN := Lib.hid (HNX.out.trans (if_neg (fun hh => hpe (HHB.out.1 hh).2)))
          clear hfe hpe
          go_wp2_with fail
          go_roundw
          case rel => exact ⟨k + 1, by omega, by go_num, by rw [HN.out], HC6.out⟩
          case measure => simp [intOf]; omega
        have hbp : (qp == (p : Int)) = true := beq_iff_eq.2 hpe
        have HN := Lib.hid (HNX.out.trans (if_pos (HHB.out.2 ⟨hfe, hpe⟩)))
        clear hfe hpe
        go_wp2_with fail
        go_roundw
        case rel => exact ⟨k + 1, by omega, by go_num, by rw [HN.out], HC6.out⟩
        case measure => simp [intOf]; omega
end Go.Proofs.Ytpiojofmflfkkaa
