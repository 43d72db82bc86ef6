/- The law FnExactSweepFiles: the walk. -/
import Derived.Test.YtbgepefdfioljaaTq
import Derived.Test.YtbgepefdfioljaaTu
import Derived.Deep.RegionHeld3
namespace Go.Proofs.Ytbgepefdfioljaa
open Go.RowKit
theorem szLinksS_g (A : Option Addr) (n c : Nat) (left : Int) (w : World) (hn : n ≤ maxLen) (h0 : 0 ≤ left) (h1 : left ≤ 1048576) :
    Calls Try.prog 46 #[.slice A n c, .int .i64 left] w fun e w' => e = .returned (.int .i64 (szOf left n)) ∧ w = w' := by
  unfold maxLen at hn
  unfold szOf
  by_cases h : left < (n : Int)
  · rw [if_pos h]
    go_enter Try.func46, Try.ntmps46
    go_wp2
    go_ret
    exact ⟨rfl, rfl⟩
  · rw [if_neg h]
    go_enter Try.func46, Try.ntmps46
    go_wp2
    go_ret
    exact ⟨rfl, rfl⟩
set_option maxRecDepth 100000 in
set_option maxHeartbeats 4000000 in
theorem FnExactSweepFiles_any (v : Value) (x : TbA) (A2 : Option Addr) (c2 : Nat) (ls : List Lk) (w : World) (hx : TabIn w v x) (h2 : Rd (fun i => i < w.heap.size) w A2 (lcells ls)) (hlc : ls.length ≤ c2) (hcm : c2 ≤ maxLen) :
    Calls Try.prog 12 #[v, .slice A2 ls.length c2] w fun e w' => e = .returned (.bool true) ∧ Chg NoB w w' := by
  obtain ⟨A, c, X⟩ := x
  obtain ⟨rfl, h, hXl, hXr⟩ := hx
  simp only at h hXl hXr
  have HLM := Lib.hid (Nat.le_trans hlc hcm)
  clear hlc hcm
  go_enter Try.func12, Try.ntmps12
  go_wp2_with fail
  have HCH := Lib.hid (Chg.refl NoB w)
  have HX := Lib.hid h
  have HY := Lib.hid h2
  clear h h2
  obtain ⟨w1, hw1⟩ : ∃ w1, w.alloc (.cells #[.slice A X.length c] 34) = w1 := ⟨_, rfl⟩
  try rw [hw1]
  have q2 : Chg NoB w w1 := by rw [← hw1]; exact (Chg.refl _ _).alloc _
  have bq2 : Blk w1 w.heap.size 34 #[.slice A X.length c] := by rw [← hw1]; exact Blk.new _ _ _
  have sq2 : w1.heap.size = w.heap.size + 1 := by rw [← hw1]; exact World.size_alloc ..
  clear hw1
  replace HCH := Lib.hid (HCH.out.trans q2)
  replace HX := Lib.hid (HX.out.new q2)
  replace HY := Lib.hid (HY.out.new q2)
  have S3 := Lib.hid q2.size
  have S4 := Lib.hid sq2
  have HB_in := Lib.hid bq2
  have z_in_0 : w1.cell? ⟨w.heap.size, 0, none⟩ = some (.slice A X.length c) := (HB_in.out.cell _).trans rfl
  clear q2 sq2 bq2
  refine (szTable_g _ A c X 1048576 _ HX.out hXr hXl (by omega) (by omega)).mono ?_
  rintro e w5 ⟨rfl, hc6⟩
  replace HCH := Lib.hid (HCH.out.trans hc6)
  replace HB_in := Lib.hid (HB_in.out.chg hc6 (fun x => x))
  replace z_in_0 := Chg.cell hc6 z_in_0 (fun x => x)
  replace HX := Lib.hid (HX.out.new hc6)
  replace HY := Lib.hid (HY.out.new hc6)
  have S7 := Lib.hid hc6.size
  by_cases hl : 1048576 < total X
  · have hs : szOf 1048576 (total X) = -1 := by unfold szOf; rw [if_pos (by omega)]
    rw [hs]
    go_wp2
    go_ret
    exact ⟨rfl, HCH.out⟩
  have hl' : total X ≤ 1048576 := by omega
  have hs : szOf 1048576 (total X) = 1048576 - (total X : Int) := by unfold szOf; rw [if_neg (by omega)]
  rw [hs]
  have hnn : ¬ (1048576 - (total X : Int) < 0) := by omega
  have hXl2 : X.length ≤ 9223372036854775807 := by unfold maxLen at hXl; omega
  have hXr2 : ∀ r ∈ X, r.length ≤ 9223372036854775807 := fun r hr => by have := hXr r hr; unfold maxLen at this; omega
  have HXL := Lib.hid hXl2
  have HXR := Lib.hid hXr2
  have HL := Lib.hid hl'
  clear hs hXl hXr hXr2 hXl2 hl
  go_wp2_with fail
  refine (szLinksS_g A2 ls.length c2 (1048576 - (total X : Int)) _ HLM.out (by omega) (by omega)).mono ?_
  rintro e _ ⟨rfl, rfl⟩
  clear hnn
  by_cases hl : 1048576 - (total X : Int) < ls.length
  · have hs : szOf (1048576 - (total X : Int)) ls.length = -1 := by unfold szOf; rw [if_pos (by omega)]
    rw [hs]
    go_wp2
    go_ret
    exact ⟨rfl, HCH.out⟩
  have hs : szOf (1048576 - (total X : Int)) ls.length = 1048576 - (total X : Int) - (ls.length : Int) := by unfold szOf; rw [if_neg (by omega)]
  rw [hs]
  have hnn : ¬ (1048576 - (total X : Int) - (ls.length : Int) < 0) := by omega
  have HK := Lib.hid (show ls.length ≤ 1048576 by omega)
  have HK2 := Lib.hid (show ls.length ≤ 9223372036854775807 by omega)
  obtain ⟨Y, hI0⟩ := SweepIs.ex X ls
  have HI0 := Lib.hid hI0
  have HTT := Lib.hid hI0.small
  clear hs hl hl' HLM hI0
  go_wp2_with fail
  refine (toTable_any _ A c X _ HX.out HL.out).mono ?_
  rintro e w8 ⟨g1, T1, rfl, hT1, hc9, hO1⟩
  replace HCH := Lib.hid (HCH.out.trans hc9)
  replace HB_in := Lib.hid (HB_in.out.chg hc9 (fun x => x))
  replace z_in_0 := Chg.cell hc9 z_in_0 (fun x => x)
  replace HX := Lib.hid (HX.out.new hc9)
  replace HY := Lib.hid (HY.out.new hc9)
  have S10 := Lib.hid hc9.size
  have O1 := Lib.hid hO1
  have HT1 := Lib.hid hT1
  clear hO1 hT1 hc9
  have HR1_ := O1.out.reads
  rw [HT1.out] at HR1_
  have R1 := Lib.hid HR1_
  clear HR1_
  go_wp2_with fail
  refine (toLinksS_any _ A2 c2 ls _ HY.out HK.out).mono ?_
  rintro e w11 ⟨k1, rfl, hk1, hc12, hb1⟩
  have hOl1 : OwnS w8.heap.size w11.heap.size w11 64 (some ⟨k1, 0, none⟩) ls.length ls.length (lcells ls) := OwnS.of_blk hb1 hk1 hb1.lt (Nat.le_refl _)
  replace HCH := Lib.hid (HCH.out.trans hc12)
  replace HB_in := Lib.hid (HB_in.out.chg hc12 (fun x => x))
  replace z_in_0 := Chg.cell hc12 z_in_0 (fun x => x)
  replace HX := Lib.hid (HX.out.new hc12)
  replace HY := Lib.hid (HY.out.new hc12)
  replace O1 := Lib.hid (O1.out.new hc12)
  replace R1 := Lib.hid (R1.out.new hc12)
  have S13 := Lib.hid hc12.size
  have L1 := Lib.hid hOl1
  clear hOl1 hk1 hb1 hc12
  go_wp2_with fail
  refine (sSweepFiles_any _ _ _ _ X _ _ ls _ R1.out HXL.out HXR.out L1.out.rd HK2.out).mono ?_
  rintro e w14 ⟨Aw, cw, Sw, rfl, hOw, hIw, hc15⟩
  replace HCH := Lib.hid (HCH.out.trans hc15)
  replace HB_in := Lib.hid (HB_in.out.chg hc15 (fun x => x))
  replace z_in_0 := Chg.cell hc15 z_in_0 (fun x => x)
  replace HX := Lib.hid (HX.out.new hc15)
  replace HY := Lib.hid (HY.out.new hc15)
  replace O1 := Lib.hid (O1.out.new hc15)
  replace R1 := Lib.hid (R1.out.new hc15)
  replace L1 := Lib.hid (L1.out.new hc15)
  have S16 := Lib.hid hc15.size
  have hXw := hIw.out.det HI0.out
  have hlenw : Sw.length = Y.length := by rw [← hXw, listsOf_length]
  rw [hlenw]
  have HLNw := Lib.hid hlenw
  have HXXw := Lib.hid hXw
  have hRw := hOw.reads
  rw [hXw] at hRw
  have RSw := Lib.hid hRw
  have OSw := Lib.hid hOw
  clear hRw hOw hIw hXw hlenw hc15
  clear O1
  clear R1
  clear L1
  have zz_in_0 := Chg.cell ((Chg.refl NoB w14).alloc (.cells #[.slice Aw Y.length cw] 39)) z_in_0 (fun x => x)
  go_wp2_with fail
  clear zz_in_0
  obtain ⟨w17, hw17⟩ : ∃ w17, w14.alloc (.cells #[.slice Aw Y.length cw] 39) = w17 := ⟨_, rfl⟩
  try rw [hw17]
  have q18 : Chg NoB w14 w17 := by rw [← hw17]; exact (Chg.refl _ _).alloc _
  have bq18 : Blk w17 w14.heap.size 39 #[.slice Aw Y.length cw] := by rw [← hw17]; exact Blk.new _ _ _
  have sq18 : w17.heap.size = w14.heap.size + 1 := by rw [← hw17]; exact World.size_alloc ..
  clear hw17
  replace HCH := Lib.hid (HCH.out.trans q18)
  replace HB_in := Lib.hid (HB_in.out.chg q18 (fun x => x))
  replace z_in_0 := Chg.cell q18 z_in_0 (fun x => x)
  replace HX := Lib.hid (HX.out.new q18)
  replace HY := Lib.hid (HY.out.new q18)
  replace RSw := Lib.hid (RSw.out.new q18)
  replace OSw := Lib.hid (OSw.out.new q18)
  have S19 := Lib.hid q18.size
  have S20 := Lib.hid sq18
  have HB_w0 := Lib.hid bq18
  have z_w0_0 : w17.cell? ⟨w14.heap.size, 0, none⟩ = some (.slice Aw Y.length cw) := (HB_w0.out.cell _).trans rfl
  clear q18 sq18 bq18
  refine (toTable_any _ A c X _ HX.out HL.out).mono ?_
  rintro e w21 ⟨g2, T2, rfl, hT2, hc22, hO2⟩
  replace HCH := Lib.hid (HCH.out.trans hc22)
  replace HB_in := Lib.hid (HB_in.out.chg hc22 (fun x => x))
  replace z_in_0 := Chg.cell hc22 z_in_0 (fun x => x)
  replace HB_w0 := Lib.hid (HB_w0.out.chg hc22 (fun x => x))
  replace z_w0_0 := Chg.cell hc22 z_w0_0 (fun x => x)
  replace HX := Lib.hid (HX.out.new hc22)
  replace HY := Lib.hid (HY.out.new hc22)
  replace RSw := Lib.hid (RSw.out.new hc22)
  replace OSw := Lib.hid (OSw.out.new hc22)
  have S23 := Lib.hid hc22.size
  have O2 := Lib.hid hO2
  have HT2 := Lib.hid hT2
  clear hO2 hT2 hc22
  have HR2_ := O2.out.reads
  rw [HT2.out] at HR2_
  have R2 := Lib.hid HR2_
  clear HR2_
  have zz_in_0 := Chg.cell ((Chg.refl NoB w21).alloc (.cells #[.slice (some ⟨g2, 0, none⟩) X.length X.length] 39)) z_in_0 (fun x => x)
  have zz_w0_0 := Chg.cell ((Chg.refl NoB w21).alloc (.cells #[.slice (some ⟨g2, 0, none⟩) X.length X.length] 39)) z_w0_0 (fun x => x)
  go_wp2_with fail
  clear zz_in_0 zz_w0_0
  obtain ⟨w24, hw24⟩ : ∃ w24, w21.alloc (.cells #[.slice (some ⟨g2, 0, none⟩) X.length X.length] 39) = w24 := ⟨_, rfl⟩
  try rw [hw24]
  have q25 : Chg NoB w21 w24 := by rw [← hw24]; exact (Chg.refl _ _).alloc _
  have bq25 : Blk w24 w21.heap.size 39 #[.slice (some ⟨g2, 0, none⟩) X.length X.length] := by rw [← hw24]; exact Blk.new _ _ _
  have sq25 : w24.heap.size = w21.heap.size + 1 := by rw [← hw24]; exact World.size_alloc ..
  clear hw24
  replace HCH := Lib.hid (HCH.out.trans q25)
  replace HB_in := Lib.hid (HB_in.out.chg q25 (fun x => x))
  replace z_in_0 := Chg.cell q25 z_in_0 (fun x => x)
  replace HB_w0 := Lib.hid (HB_w0.out.chg q25 (fun x => x))
  replace z_w0_0 := Chg.cell q25 z_w0_0 (fun x => x)
  replace HX := Lib.hid (HX.out.new q25)
  replace HY := Lib.hid (HY.out.new q25)
  replace RSw := Lib.hid (RSw.out.new q25)
  replace OSw := Lib.hid (OSw.out.new q25)
  replace O2 := Lib.hid (O2.out.new q25)
  replace R2 := Lib.hid (R2.out.new q25)
  have S26 := Lib.hid q25.size
  have S27 := Lib.hid sq25
  have HB_x0 := Lib.hid bq25
  have z_x0_0 : w24.cell? ⟨w21.heap.size, 0, none⟩ = some (.slice (some ⟨g2, 0, none⟩) X.length X.length) := (HB_x0.out.cell _).trans rfl
  clear q25 sq25 bq25
  refine (toLinksS_any _ A2 c2 ls _ HY.out HK.out).mono ?_
  rintro e w28 ⟨k2, rfl, hk2, hc29, hb2⟩
  have hOl2 : OwnS w24.heap.size w28.heap.size w28 64 (some ⟨k2, 0, none⟩) ls.length ls.length (lcells ls) := OwnS.of_blk hb2 hk2 hb2.lt (Nat.le_refl _)
  replace HCH := Lib.hid (HCH.out.trans hc29)
  replace HB_in := Lib.hid (HB_in.out.chg hc29 (fun x => x))
  replace z_in_0 := Chg.cell hc29 z_in_0 (fun x => x)
  replace HB_w0 := Lib.hid (HB_w0.out.chg hc29 (fun x => x))
  replace z_w0_0 := Chg.cell hc29 z_w0_0 (fun x => x)
  replace HB_x0 := Lib.hid (HB_x0.out.chg hc29 (fun x => x))
  replace z_x0_0 := Chg.cell hc29 z_x0_0 (fun x => x)
  replace HX := Lib.hid (HX.out.new hc29)
  replace HY := Lib.hid (HY.out.new hc29)
  replace RSw := Lib.hid (RSw.out.new hc29)
  replace OSw := Lib.hid (OSw.out.new hc29)
  replace O2 := Lib.hid (O2.out.new hc29)
  replace R2 := Lib.hid (R2.out.new hc29)
  have S30 := Lib.hid hc29.size
  have L2 := Lib.hid hOl2
  clear hOl2 hk2 hb2 hc29
  go_wp2_with fail
  refine (iSweepFiles_any _ _ _ _ X _ _ ls _ R2.out HXL.out HXR.out L2.out.rd HK2.out).mono ?_
  rintro e w31 ⟨Ag, cg, Sg, rfl, hOg, hIg, hc32⟩
  replace HCH := Lib.hid (HCH.out.trans hc32)
  replace HB_in := Lib.hid (HB_in.out.chg hc32 (fun x => x))
  replace z_in_0 := Chg.cell hc32 z_in_0 (fun x => x)
  replace HB_w0 := Lib.hid (HB_w0.out.chg hc32 (fun x => x))
  replace z_w0_0 := Chg.cell hc32 z_w0_0 (fun x => x)
  replace HB_x0 := Lib.hid (HB_x0.out.chg hc32 (fun x => x))
  replace z_x0_0 := Chg.cell hc32 z_x0_0 (fun x => x)
  replace HX := Lib.hid (HX.out.new hc32)
  replace HY := Lib.hid (HY.out.new hc32)
  replace RSw := Lib.hid (RSw.out.new hc32)
  replace OSw := Lib.hid (OSw.out.new hc32)
  replace O2 := Lib.hid (O2.out.new hc32)
  replace R2 := Lib.hid (R2.out.new hc32)
  replace L2 := Lib.hid (L2.out.new hc32)
  have S33 := Lib.hid hc32.size
  have hXg := hIg.out.det HI0.out
  have hleng : Sg.length = Y.length := by rw [← hXg, listsOf_length]
  rw [hleng]
  have HLNg := Lib.hid hleng
  have HXXg := Lib.hid hXg
  have hRg := hOg.reads
  rw [hXg] at hRg
  have RSg := Lib.hid hRg
  have OSg := Lib.hid hOg
  clear hRg hOg hIg hXg hleng hc32
  have zz_in_0 := Chg.cell ((Chg.refl NoB w31).alloc (.cells #[.slice Ag Y.length cg] 39)) z_in_0 (fun x => x)
  have zz_w0_0 := Chg.cell ((Chg.refl NoB w31).alloc (.cells #[.slice Ag Y.length cg] 39)) z_w0_0 (fun x => x)
  have zz_x0_0 := Chg.cell ((Chg.refl NoB w31).alloc (.cells #[.slice Ag Y.length cg] 39)) z_x0_0 (fun x => x)
  go_wp2_with fail
  clear zz_in_0 zz_w0_0 zz_x0_0
  obtain ⟨w34, hw34⟩ : ∃ w34, w31.alloc (.cells #[.slice Ag Y.length cg] 39) = w34 := ⟨_, rfl⟩
  try rw [hw34]
  have q35 : Chg NoB w31 w34 := by rw [← hw34]; exact (Chg.refl _ _).alloc _
  have bq35 : Blk w34 w31.heap.size 39 #[.slice Ag Y.length cg] := by rw [← hw34]; exact Blk.new _ _ _
  have sq35 : w34.heap.size = w31.heap.size + 1 := by rw [← hw34]; exact World.size_alloc ..
  clear hw34
  replace HCH := Lib.hid (HCH.out.trans q35)
  replace HB_in := Lib.hid (HB_in.out.chg q35 (fun x => x))
  replace z_in_0 := Chg.cell q35 z_in_0 (fun x => x)
  replace HB_w0 := Lib.hid (HB_w0.out.chg q35 (fun x => x))
  replace z_w0_0 := Chg.cell q35 z_w0_0 (fun x => x)
  replace HB_x0 := Lib.hid (HB_x0.out.chg q35 (fun x => x))
  replace z_x0_0 := Chg.cell q35 z_x0_0 (fun x => x)
  replace HX := Lib.hid (HX.out.new q35)
  replace HY := Lib.hid (HY.out.new q35)
  replace RSw := Lib.hid (RSw.out.new q35)
  replace OSw := Lib.hid (OSw.out.new q35)
  replace O2 := Lib.hid (O2.out.new q35)
  replace R2 := Lib.hid (R2.out.new q35)
  replace L2 := Lib.hid (L2.out.new q35)
  replace RSg := Lib.hid (RSg.out.new q35)
  replace OSg := Lib.hid (OSg.out.new q35)
  have S36 := Lib.hid q35.size
  have S37 := Lib.hid sq35
  have HB_g0 := Lib.hid bq35
  have z_g0_0 : w34.cell? ⟨w31.heap.size, 0, none⟩ = some (.slice Ag Y.length cg) := (HB_g0.out.cell _).trans rfl
  clear q35 sq35 bq35
  refine (eqTable_t _ _ _ _ _ _ Y _ RSg.out RSw.out HTT.out.2.1 HTT.out.2.2).mono ?_
  rintro e w38 ⟨rfl, hc39⟩
  replace HCH := Lib.hid (HCH.out.trans hc39)
  replace HB_in := Lib.hid (HB_in.out.chg hc39 (fun x => x))
  replace z_in_0 := Chg.cell hc39 z_in_0 (fun x => x)
  replace HB_w0 := Lib.hid (HB_w0.out.chg hc39 (fun x => x))
  replace z_w0_0 := Chg.cell hc39 z_w0_0 (fun x => x)
  replace HB_x0 := Lib.hid (HB_x0.out.chg hc39 (fun x => x))
  replace z_x0_0 := Chg.cell hc39 z_x0_0 (fun x => x)
  replace HB_g0 := Lib.hid (HB_g0.out.chg hc39 (fun x => x))
  replace z_g0_0 := Chg.cell hc39 z_g0_0 (fun x => x)
  replace HX := Lib.hid (HX.out.new hc39)
  replace HY := Lib.hid (HY.out.new hc39)
  replace RSw := Lib.hid (RSw.out.new hc39)
  replace OSw := Lib.hid (OSw.out.new hc39)
  replace O2 := Lib.hid (O2.out.new hc39)
  replace R2 := Lib.hid (R2.out.new hc39)
  replace L2 := Lib.hid (L2.out.new hc39)
  replace RSg := Lib.hid (RSg.out.new hc39)
  replace OSg := Lib.hid (OSg.out.new hc39)
  have S40 := Lib.hid hc39.size
  clear hc39
  go_wp2_with fail
  go_region_held3 (fun w' => w'.cell? ⟨w.heap.size, 0, none⟩ = some (.slice A X.length c) ∧ w'.cell? ⟨w21.heap.size, 0, none⟩ = some (.slice (some ⟨g2, 0, none⟩) X.length X.length))
    (first | go_keep | exact ⟨hcc.cell (by assumption) (fun x => x), hcc.cell (by assumption) (fun x => x)⟩ | exact ⟨(HKK.out.trans hcc).cell (by assumption) (fun x => x), (HKK.out.trans hcc).cell (by assumption) (fun x => x)⟩)
    (first
      | (go_at_call 21; refine (toTable_any _ A c X _ (HX.out.new (Chg.refl NoB w38).drew) HL.out).mono ?_; rintro e' wt ⟨gt, Tt, rfl, hTt, hcc, hOt⟩; have HKK := Lib.hid hcc; have HOt := Lib.hid hOt; have HTt := Lib.hid hTt)
      | (go_at_call 24; refine (eqTable_t _ _ _ _ _ _ X _ ((R2.out.new (Chg.refl NoB w38).drew).new HKK.out) (by have := HOt.out.reads; rw [HTt.out] at this; exact this) HXL.out HXR.out).mono ?_; rintro e' we ⟨rfl, hcc⟩))
  have hrg : Chg NoB w38 we := ((Chg.refl NoB w38).drew.trans HKK.out).trans hcc
  replace HCH := Lib.hid (HCH.out.trans hrg)
  replace HB_in := Lib.hid (HB_in.out.chg hrg (fun x => x))
  replace z_in_0 := Chg.cell hrg z_in_0 (fun x => x)
  replace HB_w0 := Lib.hid (HB_w0.out.chg hrg (fun x => x))
  replace z_w0_0 := Chg.cell hrg z_w0_0 (fun x => x)
  replace HB_x0 := Lib.hid (HB_x0.out.chg hrg (fun x => x))
  replace z_x0_0 := Chg.cell hrg z_x0_0 (fun x => x)
  replace HB_g0 := Lib.hid (HB_g0.out.chg hrg (fun x => x))
  replace z_g0_0 := Chg.cell hrg z_g0_0 (fun x => x)
  replace HX := Lib.hid (HX.out.new hrg)
  replace HY := Lib.hid (HY.out.new hrg)
  replace RSw := Lib.hid (RSw.out.new hrg)
  replace OSw := Lib.hid (OSw.out.new hrg)
  replace O2 := Lib.hid (O2.out.new hrg)
  replace R2 := Lib.hid (R2.out.new hrg)
  replace L2 := Lib.hid (L2.out.new hrg)
  replace RSg := Lib.hid (RSg.out.new hrg)
  replace OSg := Lib.hid (OSg.out.new hrg)
  have S41 := Lib.hid hrg.size
  clear hrg hcc HKK HOt HTt
  go_wp2_with fail
  refine (toLinksS_any _ A2 c2 ls _ HY.out HK.out).mono ?_
  rintro e w42 ⟨k3, rfl, hk3, hc43, hb3⟩
  have hOl3 : OwnS we.heap.size w42.heap.size w42 64 (some ⟨k3, 0, none⟩) ls.length ls.length (lcells ls) := OwnS.of_blk hb3 hk3 hb3.lt (Nat.le_refl _)
  replace HCH := Lib.hid (HCH.out.trans hc43)
  replace HB_in := Lib.hid (HB_in.out.chg hc43 (fun x => x))
  replace z_in_0 := Chg.cell hc43 z_in_0 (fun x => x)
  replace HB_w0 := Lib.hid (HB_w0.out.chg hc43 (fun x => x))
  replace z_w0_0 := Chg.cell hc43 z_w0_0 (fun x => x)
  replace HB_x0 := Lib.hid (HB_x0.out.chg hc43 (fun x => x))
  replace z_x0_0 := Chg.cell hc43 z_x0_0 (fun x => x)
  replace HB_g0 := Lib.hid (HB_g0.out.chg hc43 (fun x => x))
  replace z_g0_0 := Chg.cell hc43 z_g0_0 (fun x => x)
  replace HX := Lib.hid (HX.out.new hc43)
  replace HY := Lib.hid (HY.out.new hc43)
  replace RSw := Lib.hid (RSw.out.new hc43)
  replace OSw := Lib.hid (OSw.out.new hc43)
  replace O2 := Lib.hid (O2.out.new hc43)
  replace R2 := Lib.hid (R2.out.new hc43)
  replace L2 := Lib.hid (L2.out.new hc43)
  replace RSg := Lib.hid (RSg.out.new hc43)
  replace OSg := Lib.hid (OSg.out.new hc43)
  have S44 := Lib.hid hc43.size
  have L3 := Lib.hid hOl3
  clear hOl3 hk3 hb3 hc43
  go_wp2_with fail
  refine (eqLinksS_t _ _ _ _ _ _ ls _ L2.out.rd L3.out.rd HK2.out).mono ?_
  rintro e w45 ⟨rfl, hc46⟩
  replace HCH := Lib.hid (HCH.out.trans hc46)
  replace HB_in := Lib.hid (HB_in.out.chg hc46 (fun x => x))
  replace z_in_0 := Chg.cell hc46 z_in_0 (fun x => x)
  replace HB_w0 := Lib.hid (HB_w0.out.chg hc46 (fun x => x))
  replace z_w0_0 := Chg.cell hc46 z_w0_0 (fun x => x)
  replace HB_x0 := Lib.hid (HB_x0.out.chg hc46 (fun x => x))
  replace z_x0_0 := Chg.cell hc46 z_x0_0 (fun x => x)
  replace HB_g0 := Lib.hid (HB_g0.out.chg hc46 (fun x => x))
  replace z_g0_0 := Chg.cell hc46 z_g0_0 (fun x => x)
  replace HX := Lib.hid (HX.out.new hc46)
  replace HY := Lib.hid (HY.out.new hc46)
  replace RSw := Lib.hid (RSw.out.new hc46)
  replace OSw := Lib.hid (OSw.out.new hc46)
  replace O2 := Lib.hid (O2.out.new hc46)
  replace R2 := Lib.hid (R2.out.new hc46)
  replace L2 := Lib.hid (L2.out.new hc46)
  replace RSg := Lib.hid (RSg.out.new hc46)
  replace OSg := Lib.hid (OSg.out.new hc46)
  replace L3 := Lib.hid (L3.out.new hc46)
  have S47 := Lib.hid hc46.size
  clear hc46
  clear L3
  go_wp2_with fail
  have hT2l : T2.length = X.length := by rw [← listsOf_length, HT2.out]
  have hmk := markTable_any _ _ _ _ T2 1 w45 O2.out (by rw [HT2.out]; exact HL.out) (by omega) (by omega)
  rw [hT2l, HT2.out] at hmk
  have HMK := Lib.hid hmk
  clear hmk hT2l
  refine (HMK.out).mono ?_
  rintro e w48 ⟨T2m, rfl, hc49, -, -, -⟩
  clear R2
  replace HCH := Lib.hid (HCH.out.trans' hc49 (fun i hi => .inr (by have := S3.out; have := S4.out; have := S7.out; have := S10.out; have := S13.out; have := S16.out; have := S19.out; have := S20.out; have := S23.out; have := S26.out; have := S27.out; have := S30.out; have := S33.out; have := S36.out; have := S37.out; have := S40.out; have := S41.out; have := S44.out; have := S47.out; omega)))
  replace HB_in := Lib.hid (HB_in.out.chg hc49 (by have := S3.out; have := S4.out; have := S7.out; have := S10.out; have := S13.out; have := S16.out; have := S19.out; have := S20.out; have := S23.out; have := S26.out; have := S27.out; have := S30.out; have := S33.out; have := S36.out; have := S37.out; have := S40.out; have := S41.out; have := S44.out; have := S47.out; omega))
  replace z_in_0 := Chg.cell hc49 z_in_0 (by simp only; have := S3.out; have := S4.out; have := S7.out; have := S10.out; have := S13.out; have := S16.out; have := S19.out; have := S20.out; have := S23.out; have := S26.out; have := S27.out; have := S30.out; have := S33.out; have := S36.out; have := S37.out; have := S40.out; have := S41.out; have := S44.out; have := S47.out; omega)
  replace HB_w0 := Lib.hid (HB_w0.out.chg hc49 (by have := S3.out; have := S4.out; have := S7.out; have := S10.out; have := S13.out; have := S16.out; have := S19.out; have := S20.out; have := S23.out; have := S26.out; have := S27.out; have := S30.out; have := S33.out; have := S36.out; have := S37.out; have := S40.out; have := S41.out; have := S44.out; have := S47.out; omega))
  replace z_w0_0 := Chg.cell hc49 z_w0_0 (by simp only; have := S3.out; have := S4.out; have := S7.out; have := S10.out; have := S13.out; have := S16.out; have := S19.out; have := S20.out; have := S23.out; have := S26.out; have := S27.out; have := S30.out; have := S33.out; have := S36.out; have := S37.out; have := S40.out; have := S41.out; have := S44.out; have := S47.out; omega)
  replace HB_x0 := Lib.hid (HB_x0.out.chg hc49 (by have := S3.out; have := S4.out; have := S7.out; have := S10.out; have := S13.out; have := S16.out; have := S19.out; have := S20.out; have := S23.out; have := S26.out; have := S27.out; have := S30.out; have := S33.out; have := S36.out; have := S37.out; have := S40.out; have := S41.out; have := S44.out; have := S47.out; omega))
  replace z_x0_0 := Chg.cell hc49 z_x0_0 (by simp only; have := S3.out; have := S4.out; have := S7.out; have := S10.out; have := S13.out; have := S16.out; have := S19.out; have := S20.out; have := S23.out; have := S26.out; have := S27.out; have := S30.out; have := S33.out; have := S36.out; have := S37.out; have := S40.out; have := S41.out; have := S44.out; have := S47.out; omega)
  replace HB_g0 := Lib.hid (HB_g0.out.chg hc49 (by have := S3.out; have := S4.out; have := S7.out; have := S10.out; have := S13.out; have := S16.out; have := S19.out; have := S20.out; have := S23.out; have := S26.out; have := S27.out; have := S30.out; have := S33.out; have := S36.out; have := S37.out; have := S40.out; have := S41.out; have := S44.out; have := S47.out; omega))
  replace z_g0_0 := Chg.cell hc49 z_g0_0 (by simp only; have := S3.out; have := S4.out; have := S7.out; have := S10.out; have := S13.out; have := S16.out; have := S19.out; have := S20.out; have := S23.out; have := S26.out; have := S27.out; have := S30.out; have := S33.out; have := S36.out; have := S37.out; have := S40.out; have := S41.out; have := S44.out; have := S47.out; omega)
  replace HX := Lib.hid (HX.out.chg hc49 (fun i h1 h2 => by have := S3.out; have := S4.out; have := S7.out; have := S10.out; have := S13.out; have := S16.out; have := S19.out; have := S20.out; have := S23.out; have := S26.out; have := S27.out; have := S30.out; have := S33.out; have := S36.out; have := S37.out; have := S40.out; have := S41.out; have := S44.out; have := S47.out; omega))
  replace HY := Lib.hid (HY.out.chg hc49 (fun i h1 h2 => by have := S3.out; have := S4.out; have := S7.out; have := S10.out; have := S13.out; have := S16.out; have := S19.out; have := S20.out; have := S23.out; have := S26.out; have := S27.out; have := S30.out; have := S33.out; have := S36.out; have := S37.out; have := S40.out; have := S41.out; have := S44.out; have := S47.out; omega))
  replace RSw := Lib.hid (RSw.out.chg hc49 (fun i h1 h2 => by have := S3.out; have := S4.out; have := S7.out; have := S10.out; have := S13.out; have := S16.out; have := S19.out; have := S20.out; have := S23.out; have := S26.out; have := S27.out; have := S30.out; have := S33.out; have := S36.out; have := S37.out; have := S40.out; have := S41.out; have := S44.out; have := S47.out; omega))
  replace OSw := Lib.hid (OSw.out.chg hc49 (fun i h1 h2 h3 => by have := S3.out; have := S4.out; have := S7.out; have := S10.out; have := S13.out; have := S16.out; have := S19.out; have := S20.out; have := S23.out; have := S26.out; have := S27.out; have := S30.out; have := S33.out; have := S36.out; have := S37.out; have := S40.out; have := S41.out; have := S44.out; have := S47.out; omega))
  replace L2 := Lib.hid (L2.out.chg hc49 (fun i h1 h2 h3 => by have := S3.out; have := S4.out; have := S7.out; have := S10.out; have := S13.out; have := S16.out; have := S19.out; have := S20.out; have := S23.out; have := S26.out; have := S27.out; have := S30.out; have := S33.out; have := S36.out; have := S37.out; have := S40.out; have := S41.out; have := S44.out; have := S47.out; omega))
  replace RSg := Lib.hid (RSg.out.chg hc49 (fun i h1 h2 => by have := S3.out; have := S4.out; have := S7.out; have := S10.out; have := S13.out; have := S16.out; have := S19.out; have := S20.out; have := S23.out; have := S26.out; have := S27.out; have := S30.out; have := S33.out; have := S36.out; have := S37.out; have := S40.out; have := S41.out; have := S44.out; have := S47.out; omega))
  replace OSg := Lib.hid (OSg.out.chg hc49 (fun i h1 h2 h3 => by have := S3.out; have := S4.out; have := S7.out; have := S10.out; have := S13.out; have := S16.out; have := S19.out; have := S20.out; have := S23.out; have := S26.out; have := S27.out; have := S30.out; have := S33.out; have := S36.out; have := S37.out; have := S40.out; have := S41.out; have := S44.out; have := S47.out; omega))
  have S50 := Lib.hid hc49.size
  clear hc49 HMK
  clear O2
  have hlx : lens X ≤ 1048576 := by have := HL.out; unfold total at this; unfold lens; omega
  have HLX := Lib.hid hlx
  clear hlx
  go_wp2_with fail
  refine (markLinksS_any _ _ _ _ ls (1 + ((lens X : Nat) : Int)) _ L2.out HK.out (by omega) (by have := HLX.out; omega)).mono ?_
  rintro e w51 ⟨rfl, hc52, -⟩
  replace HCH := Lib.hid (HCH.out.trans' hc52 (fun i hi => .inr (by have := S3.out; have := S4.out; have := S7.out; have := S10.out; have := S13.out; have := S16.out; have := S19.out; have := S20.out; have := S23.out; have := S26.out; have := S27.out; have := S30.out; have := S33.out; have := S36.out; have := S37.out; have := S40.out; have := S41.out; have := S44.out; have := S47.out; have := S50.out; omega)))
  replace HB_in := Lib.hid (HB_in.out.chg hc52 (by have := S3.out; have := S4.out; have := S7.out; have := S10.out; have := S13.out; have := S16.out; have := S19.out; have := S20.out; have := S23.out; have := S26.out; have := S27.out; have := S30.out; have := S33.out; have := S36.out; have := S37.out; have := S40.out; have := S41.out; have := S44.out; have := S47.out; have := S50.out; omega))
  replace z_in_0 := Chg.cell hc52 z_in_0 (by simp only; have := S3.out; have := S4.out; have := S7.out; have := S10.out; have := S13.out; have := S16.out; have := S19.out; have := S20.out; have := S23.out; have := S26.out; have := S27.out; have := S30.out; have := S33.out; have := S36.out; have := S37.out; have := S40.out; have := S41.out; have := S44.out; have := S47.out; have := S50.out; omega)
  replace HB_w0 := Lib.hid (HB_w0.out.chg hc52 (by have := S3.out; have := S4.out; have := S7.out; have := S10.out; have := S13.out; have := S16.out; have := S19.out; have := S20.out; have := S23.out; have := S26.out; have := S27.out; have := S30.out; have := S33.out; have := S36.out; have := S37.out; have := S40.out; have := S41.out; have := S44.out; have := S47.out; have := S50.out; omega))
  replace z_w0_0 := Chg.cell hc52 z_w0_0 (by simp only; have := S3.out; have := S4.out; have := S7.out; have := S10.out; have := S13.out; have := S16.out; have := S19.out; have := S20.out; have := S23.out; have := S26.out; have := S27.out; have := S30.out; have := S33.out; have := S36.out; have := S37.out; have := S40.out; have := S41.out; have := S44.out; have := S47.out; have := S50.out; omega)
  replace HB_x0 := Lib.hid (HB_x0.out.chg hc52 (by have := S3.out; have := S4.out; have := S7.out; have := S10.out; have := S13.out; have := S16.out; have := S19.out; have := S20.out; have := S23.out; have := S26.out; have := S27.out; have := S30.out; have := S33.out; have := S36.out; have := S37.out; have := S40.out; have := S41.out; have := S44.out; have := S47.out; have := S50.out; omega))
  replace z_x0_0 := Chg.cell hc52 z_x0_0 (by simp only; have := S3.out; have := S4.out; have := S7.out; have := S10.out; have := S13.out; have := S16.out; have := S19.out; have := S20.out; have := S23.out; have := S26.out; have := S27.out; have := S30.out; have := S33.out; have := S36.out; have := S37.out; have := S40.out; have := S41.out; have := S44.out; have := S47.out; have := S50.out; omega)
  replace HB_g0 := Lib.hid (HB_g0.out.chg hc52 (by have := S3.out; have := S4.out; have := S7.out; have := S10.out; have := S13.out; have := S16.out; have := S19.out; have := S20.out; have := S23.out; have := S26.out; have := S27.out; have := S30.out; have := S33.out; have := S36.out; have := S37.out; have := S40.out; have := S41.out; have := S44.out; have := S47.out; have := S50.out; omega))
  replace z_g0_0 := Chg.cell hc52 z_g0_0 (by simp only; have := S3.out; have := S4.out; have := S7.out; have := S10.out; have := S13.out; have := S16.out; have := S19.out; have := S20.out; have := S23.out; have := S26.out; have := S27.out; have := S30.out; have := S33.out; have := S36.out; have := S37.out; have := S40.out; have := S41.out; have := S44.out; have := S47.out; have := S50.out; omega)
  replace HX := Lib.hid (HX.out.chg hc52 (fun i h1 h2 => by have := S3.out; have := S4.out; have := S7.out; have := S10.out; have := S13.out; have := S16.out; have := S19.out; have := S20.out; have := S23.out; have := S26.out; have := S27.out; have := S30.out; have := S33.out; have := S36.out; have := S37.out; have := S40.out; have := S41.out; have := S44.out; have := S47.out; have := S50.out; omega))
  replace HY := Lib.hid (HY.out.chg hc52 (fun i h1 h2 => by have := S3.out; have := S4.out; have := S7.out; have := S10.out; have := S13.out; have := S16.out; have := S19.out; have := S20.out; have := S23.out; have := S26.out; have := S27.out; have := S30.out; have := S33.out; have := S36.out; have := S37.out; have := S40.out; have := S41.out; have := S44.out; have := S47.out; have := S50.out; omega))
  replace RSw := Lib.hid (RSw.out.chg hc52 (fun i h1 h2 => by have := S3.out; have := S4.out; have := S7.out; have := S10.out; have := S13.out; have := S16.out; have := S19.out; have := S20.out; have := S23.out; have := S26.out; have := S27.out; have := S30.out; have := S33.out; have := S36.out; have := S37.out; have := S40.out; have := S41.out; have := S44.out; have := S47.out; have := S50.out; omega))
  replace OSw := Lib.hid (OSw.out.chg hc52 (fun i h1 h2 h3 => by have := S3.out; have := S4.out; have := S7.out; have := S10.out; have := S13.out; have := S16.out; have := S19.out; have := S20.out; have := S23.out; have := S26.out; have := S27.out; have := S30.out; have := S33.out; have := S36.out; have := S37.out; have := S40.out; have := S41.out; have := S44.out; have := S47.out; have := S50.out; omega))
  replace RSg := Lib.hid (RSg.out.chg hc52 (fun i h1 h2 => by have := S3.out; have := S4.out; have := S7.out; have := S10.out; have := S13.out; have := S16.out; have := S19.out; have := S20.out; have := S23.out; have := S26.out; have := S27.out; have := S30.out; have := S33.out; have := S36.out; have := S37.out; have := S40.out; have := S41.out; have := S44.out; have := S47.out; have := S50.out; omega))
  replace OSg := Lib.hid (OSg.out.chg hc52 (fun i h1 h2 h3 => by have := S3.out; have := S4.out; have := S7.out; have := S10.out; have := S13.out; have := S16.out; have := S19.out; have := S20.out; have := S23.out; have := S26.out; have := S27.out; have := S30.out; have := S33.out; have := S36.out; have := S37.out; have := S40.out; have := S41.out; have := S44.out; have := S47.out; have := S50.out; omega))
  have S53 := Lib.hid hc52.size
  clear L2 hc52
  have hk0 : ¬ ((1 : Int) + ((lens X : Nat) : Int) + 2 * (ls.length : Int) < 0) := by omega
  go_wp2_with fail
  refine (eqTable_t _ _ _ _ _ _ Y _ RSg.out RSw.out HTT.out.2.1 HTT.out.2.2).mono ?_
  rintro e w54 ⟨rfl, hc55⟩
  replace HCH := Lib.hid (HCH.out.trans hc55)
  replace HB_in := Lib.hid (HB_in.out.chg hc55 (fun x => x))
  replace z_in_0 := Chg.cell hc55 z_in_0 (fun x => x)
  replace HB_w0 := Lib.hid (HB_w0.out.chg hc55 (fun x => x))
  replace z_w0_0 := Chg.cell hc55 z_w0_0 (fun x => x)
  replace HB_x0 := Lib.hid (HB_x0.out.chg hc55 (fun x => x))
  replace z_x0_0 := Chg.cell hc55 z_x0_0 (fun x => x)
  replace HB_g0 := Lib.hid (HB_g0.out.chg hc55 (fun x => x))
  replace z_g0_0 := Chg.cell hc55 z_g0_0 (fun x => x)
  replace HX := Lib.hid (HX.out.new hc55)
  replace HY := Lib.hid (HY.out.new hc55)
  replace RSw := Lib.hid (RSw.out.new hc55)
  replace OSw := Lib.hid (OSw.out.new hc55)
  replace RSg := Lib.hid (RSg.out.new hc55)
  replace OSg := Lib.hid (OSg.out.new hc55)
  have S56 := Lib.hid hc55.size
  clear hc55
  go_wp2_with fail
  have hmk := markTable_any _ _ _ _ Sg 1 w54 OSg.out (by rw [HXXg.out]; exact HTT.out.1) (by omega) (by omega)
  rw [HLNg.out, HXXg.out] at hmk
  have HMK := Lib.hid hmk
  clear hmk
  refine (HMK.out).mono ?_
  rintro e w57 ⟨T1m, rfl, hc58, hTm, hTml, hOm⟩
  clear RSg
  replace HCH := Lib.hid (HCH.out.trans' hc58 (fun i hi => .inr (by have := S3.out; have := S4.out; have := S7.out; have := S10.out; have := S13.out; have := S16.out; have := S19.out; have := S20.out; have := S23.out; have := S26.out; have := S27.out; have := S30.out; have := S33.out; have := S36.out; have := S37.out; have := S40.out; have := S41.out; have := S44.out; have := S47.out; have := S50.out; have := S53.out; have := S56.out; omega)))
  replace HB_in := Lib.hid (HB_in.out.chg hc58 (by have := S3.out; have := S4.out; have := S7.out; have := S10.out; have := S13.out; have := S16.out; have := S19.out; have := S20.out; have := S23.out; have := S26.out; have := S27.out; have := S30.out; have := S33.out; have := S36.out; have := S37.out; have := S40.out; have := S41.out; have := S44.out; have := S47.out; have := S50.out; have := S53.out; have := S56.out; omega))
  replace z_in_0 := Chg.cell hc58 z_in_0 (by simp only; have := S3.out; have := S4.out; have := S7.out; have := S10.out; have := S13.out; have := S16.out; have := S19.out; have := S20.out; have := S23.out; have := S26.out; have := S27.out; have := S30.out; have := S33.out; have := S36.out; have := S37.out; have := S40.out; have := S41.out; have := S44.out; have := S47.out; have := S50.out; have := S53.out; have := S56.out; omega)
  replace HB_w0 := Lib.hid (HB_w0.out.chg hc58 (by have := S3.out; have := S4.out; have := S7.out; have := S10.out; have := S13.out; have := S16.out; have := S19.out; have := S20.out; have := S23.out; have := S26.out; have := S27.out; have := S30.out; have := S33.out; have := S36.out; have := S37.out; have := S40.out; have := S41.out; have := S44.out; have := S47.out; have := S50.out; have := S53.out; have := S56.out; omega))
  replace z_w0_0 := Chg.cell hc58 z_w0_0 (by simp only; have := S3.out; have := S4.out; have := S7.out; have := S10.out; have := S13.out; have := S16.out; have := S19.out; have := S20.out; have := S23.out; have := S26.out; have := S27.out; have := S30.out; have := S33.out; have := S36.out; have := S37.out; have := S40.out; have := S41.out; have := S44.out; have := S47.out; have := S50.out; have := S53.out; have := S56.out; omega)
  replace HB_x0 := Lib.hid (HB_x0.out.chg hc58 (by have := S3.out; have := S4.out; have := S7.out; have := S10.out; have := S13.out; have := S16.out; have := S19.out; have := S20.out; have := S23.out; have := S26.out; have := S27.out; have := S30.out; have := S33.out; have := S36.out; have := S37.out; have := S40.out; have := S41.out; have := S44.out; have := S47.out; have := S50.out; have := S53.out; have := S56.out; omega))
  replace z_x0_0 := Chg.cell hc58 z_x0_0 (by simp only; have := S3.out; have := S4.out; have := S7.out; have := S10.out; have := S13.out; have := S16.out; have := S19.out; have := S20.out; have := S23.out; have := S26.out; have := S27.out; have := S30.out; have := S33.out; have := S36.out; have := S37.out; have := S40.out; have := S41.out; have := S44.out; have := S47.out; have := S50.out; have := S53.out; have := S56.out; omega)
  replace HB_g0 := Lib.hid (HB_g0.out.chg hc58 (by have := S3.out; have := S4.out; have := S7.out; have := S10.out; have := S13.out; have := S16.out; have := S19.out; have := S20.out; have := S23.out; have := S26.out; have := S27.out; have := S30.out; have := S33.out; have := S36.out; have := S37.out; have := S40.out; have := S41.out; have := S44.out; have := S47.out; have := S50.out; have := S53.out; have := S56.out; omega))
  replace z_g0_0 := Chg.cell hc58 z_g0_0 (by simp only; have := S3.out; have := S4.out; have := S7.out; have := S10.out; have := S13.out; have := S16.out; have := S19.out; have := S20.out; have := S23.out; have := S26.out; have := S27.out; have := S30.out; have := S33.out; have := S36.out; have := S37.out; have := S40.out; have := S41.out; have := S44.out; have := S47.out; have := S50.out; have := S53.out; have := S56.out; omega)
  replace HX := Lib.hid (HX.out.chg hc58 (fun i h1 h2 => by have := S3.out; have := S4.out; have := S7.out; have := S10.out; have := S13.out; have := S16.out; have := S19.out; have := S20.out; have := S23.out; have := S26.out; have := S27.out; have := S30.out; have := S33.out; have := S36.out; have := S37.out; have := S40.out; have := S41.out; have := S44.out; have := S47.out; have := S50.out; have := S53.out; have := S56.out; omega))
  replace HY := Lib.hid (HY.out.chg hc58 (fun i h1 h2 => by have := S3.out; have := S4.out; have := S7.out; have := S10.out; have := S13.out; have := S16.out; have := S19.out; have := S20.out; have := S23.out; have := S26.out; have := S27.out; have := S30.out; have := S33.out; have := S36.out; have := S37.out; have := S40.out; have := S41.out; have := S44.out; have := S47.out; have := S50.out; have := S53.out; have := S56.out; omega))
  replace RSw := Lib.hid (RSw.out.chg hc58 (fun i h1 h2 => by have := S3.out; have := S4.out; have := S7.out; have := S10.out; have := S13.out; have := S16.out; have := S19.out; have := S20.out; have := S23.out; have := S26.out; have := S27.out; have := S30.out; have := S33.out; have := S36.out; have := S37.out; have := S40.out; have := S41.out; have := S44.out; have := S47.out; have := S50.out; have := S53.out; have := S56.out; omega))
  replace OSw := Lib.hid (OSw.out.chg hc58 (fun i h1 h2 h3 => by have := S3.out; have := S4.out; have := S7.out; have := S10.out; have := S13.out; have := S16.out; have := S19.out; have := S20.out; have := S23.out; have := S26.out; have := S27.out; have := S30.out; have := S33.out; have := S36.out; have := S37.out; have := S40.out; have := S41.out; have := S44.out; have := S47.out; have := S50.out; have := S53.out; have := S56.out; omega))
  have S59 := Lib.hid hc58.size
  clear hc58
  clear OSg
  have hRm := hOm.reads
  rw [hTm] at hRm
  have RM := Lib.hid hRm
  clear hRm hOm hTm hTml
  have hm0 : ¬ ((1 : Int) + ((lens Y : Nat) : Int) < 0) := by omega
  have hmm : (((1 : Int) + ((lens Y : Nat) : Int)) != ((1 : Int) + ((lens Y : Nat) : Int))) = false := by simp
  go_wp2_with fail
  refine (heldTable_any _ _ _ Y 1 _ RM.out HTT.out.1 (by omega) (by omega)).mono ?_
  rintro e w60 ⟨rfl, hc61⟩
  replace HCH := Lib.hid (HCH.out.trans hc61)
  replace HB_in := Lib.hid (HB_in.out.chg hc61 (fun x => x))
  replace z_in_0 := Chg.cell hc61 z_in_0 (fun x => x)
  replace HB_w0 := Lib.hid (HB_w0.out.chg hc61 (fun x => x))
  replace z_w0_0 := Chg.cell hc61 z_w0_0 (fun x => x)
  replace HB_x0 := Lib.hid (HB_x0.out.chg hc61 (fun x => x))
  replace z_x0_0 := Chg.cell hc61 z_x0_0 (fun x => x)
  replace HB_g0 := Lib.hid (HB_g0.out.chg hc61 (fun x => x))
  replace z_g0_0 := Chg.cell hc61 z_g0_0 (fun x => x)
  replace HX := Lib.hid (HX.out.new hc61)
  replace HY := Lib.hid (HY.out.new hc61)
  replace RSw := Lib.hid (RSw.out.new hc61)
  replace OSw := Lib.hid (OSw.out.new hc61)
  replace RM := Lib.hid (RM.out.new hc61)
  have S62 := Lib.hid hc61.size
  clear hc61
  go_wp2_with fail
  refine (toTable_any _ A c X _ HX.out HL.out).mono ?_
  rintro e w63 ⟨g4, T4, rfl, hT4, hc64, hO4⟩
  replace HCH := Lib.hid (HCH.out.trans hc64)
  replace HB_in := Lib.hid (HB_in.out.chg hc64 (fun x => x))
  replace z_in_0 := Chg.cell hc64 z_in_0 (fun x => x)
  replace HB_w0 := Lib.hid (HB_w0.out.chg hc64 (fun x => x))
  replace z_w0_0 := Chg.cell hc64 z_w0_0 (fun x => x)
  replace HB_x0 := Lib.hid (HB_x0.out.chg hc64 (fun x => x))
  replace z_x0_0 := Chg.cell hc64 z_x0_0 (fun x => x)
  replace HB_g0 := Lib.hid (HB_g0.out.chg hc64 (fun x => x))
  replace z_g0_0 := Chg.cell hc64 z_g0_0 (fun x => x)
  replace HX := Lib.hid (HX.out.new hc64)
  replace HY := Lib.hid (HY.out.new hc64)
  replace RSw := Lib.hid (RSw.out.new hc64)
  replace OSw := Lib.hid (OSw.out.new hc64)
  replace RM := Lib.hid (RM.out.new hc64)
  have S65 := Lib.hid hc64.size
  have O4 := Lib.hid hO4
  have HT4 := Lib.hid hT4
  clear hO4 hT4 hc64
  have HR4_ := O4.out.reads
  rw [HT4.out] at HR4_
  have R4 := Lib.hid HR4_
  clear HR4_
  go_wp2_with fail
  refine (toLinksS_any _ A2 c2 ls _ HY.out HK.out).mono ?_
  rintro e w66 ⟨k4, rfl, hk4, hc67, hb4⟩
  have hOl4 : OwnS w63.heap.size w66.heap.size w66 64 (some ⟨k4, 0, none⟩) ls.length ls.length (lcells ls) := OwnS.of_blk hb4 hk4 hb4.lt (Nat.le_refl _)
  replace HCH := Lib.hid (HCH.out.trans hc67)
  replace HB_in := Lib.hid (HB_in.out.chg hc67 (fun x => x))
  replace z_in_0 := Chg.cell hc67 z_in_0 (fun x => x)
  replace HB_w0 := Lib.hid (HB_w0.out.chg hc67 (fun x => x))
  replace z_w0_0 := Chg.cell hc67 z_w0_0 (fun x => x)
  replace HB_x0 := Lib.hid (HB_x0.out.chg hc67 (fun x => x))
  replace z_x0_0 := Chg.cell hc67 z_x0_0 (fun x => x)
  replace HB_g0 := Lib.hid (HB_g0.out.chg hc67 (fun x => x))
  replace z_g0_0 := Chg.cell hc67 z_g0_0 (fun x => x)
  replace HX := Lib.hid (HX.out.new hc67)
  replace HY := Lib.hid (HY.out.new hc67)
  replace RSw := Lib.hid (RSw.out.new hc67)
  replace OSw := Lib.hid (OSw.out.new hc67)
  replace RM := Lib.hid (RM.out.new hc67)
  replace O4 := Lib.hid (O4.out.new hc67)
  replace R4 := Lib.hid (R4.out.new hc67)
  have S68 := Lib.hid hc67.size
  have L4 := Lib.hid hOl4
  clear hOl4 hk4 hb4 hc67
  go_wp2_with fail
  refine (iSweepFiles_any _ _ _ _ X _ _ ls _ R4.out HXL.out HXR.out L4.out.rd HK2.out).mono ?_
  rintro e w69 ⟨Ah, ch, Sh, rfl, hOh, hIh, hc70⟩
  replace HCH := Lib.hid (HCH.out.trans hc70)
  replace HB_in := Lib.hid (HB_in.out.chg hc70 (fun x => x))
  replace z_in_0 := Chg.cell hc70 z_in_0 (fun x => x)
  replace HB_w0 := Lib.hid (HB_w0.out.chg hc70 (fun x => x))
  replace z_w0_0 := Chg.cell hc70 z_w0_0 (fun x => x)
  replace HB_x0 := Lib.hid (HB_x0.out.chg hc70 (fun x => x))
  replace z_x0_0 := Chg.cell hc70 z_x0_0 (fun x => x)
  replace HB_g0 := Lib.hid (HB_g0.out.chg hc70 (fun x => x))
  replace z_g0_0 := Chg.cell hc70 z_g0_0 (fun x => x)
  replace HX := Lib.hid (HX.out.new hc70)
  replace HY := Lib.hid (HY.out.new hc70)
  replace RSw := Lib.hid (RSw.out.new hc70)
  replace OSw := Lib.hid (OSw.out.new hc70)
  replace RM := Lib.hid (RM.out.new hc70)
  replace O4 := Lib.hid (O4.out.new hc70)
  replace R4 := Lib.hid (R4.out.new hc70)
  replace L4 := Lib.hid (L4.out.new hc70)
  have S71 := Lib.hid hc70.size
  have hXh := hIh.out.det HI0.out
  have hlenh : Sh.length = Y.length := by rw [← hXh, listsOf_length]
  rw [hlenh]
  have HLNh := Lib.hid hlenh
  have HXXh := Lib.hid hXh
  have hRh := hOh.reads
  rw [hXh] at hRh
  have RSh := Lib.hid hRh
  have OSh := Lib.hid hOh
  clear hRh hOh hIh hXh hlenh hc70
  clear O4
  clear R4
  clear L4
  have zz_in_0 := Chg.cell ((Chg.refl NoB w69).alloc (.cells #[.slice Ah Y.length ch] 39)) z_in_0 (fun x => x)
  have zz_w0_0 := Chg.cell ((Chg.refl NoB w69).alloc (.cells #[.slice Ah Y.length ch] 39)) z_w0_0 (fun x => x)
  have zz_x0_0 := Chg.cell ((Chg.refl NoB w69).alloc (.cells #[.slice Ah Y.length ch] 39)) z_x0_0 (fun x => x)
  have zz_g0_0 := Chg.cell ((Chg.refl NoB w69).alloc (.cells #[.slice Ah Y.length ch] 39)) z_g0_0 (fun x => x)
  go_wp2_with fail
  clear zz_in_0 zz_w0_0 zz_x0_0 zz_g0_0
  obtain ⟨w72, hw72⟩ : ∃ w72, w69.alloc (.cells #[.slice Ah Y.length ch] 39) = w72 := ⟨_, rfl⟩
  try rw [hw72]
  have q73 : Chg NoB w69 w72 := by rw [← hw72]; exact (Chg.refl _ _).alloc _
  have bq73 : Blk w72 w69.heap.size 39 #[.slice Ah Y.length ch] := by rw [← hw72]; exact Blk.new _ _ _
  have sq73 : w72.heap.size = w69.heap.size + 1 := by rw [← hw72]; exact World.size_alloc ..
  clear hw72
  replace HCH := Lib.hid (HCH.out.trans q73)
  replace HB_in := Lib.hid (HB_in.out.chg q73 (fun x => x))
  replace z_in_0 := Chg.cell q73 z_in_0 (fun x => x)
  replace HB_w0 := Lib.hid (HB_w0.out.chg q73 (fun x => x))
  replace z_w0_0 := Chg.cell q73 z_w0_0 (fun x => x)
  replace HB_x0 := Lib.hid (HB_x0.out.chg q73 (fun x => x))
  replace z_x0_0 := Chg.cell q73 z_x0_0 (fun x => x)
  replace HB_g0 := Lib.hid (HB_g0.out.chg q73 (fun x => x))
  replace z_g0_0 := Chg.cell q73 z_g0_0 (fun x => x)
  replace HX := Lib.hid (HX.out.new q73)
  replace HY := Lib.hid (HY.out.new q73)
  replace RSw := Lib.hid (RSw.out.new q73)
  replace OSw := Lib.hid (OSw.out.new q73)
  replace RM := Lib.hid (RM.out.new q73)
  replace RSh := Lib.hid (RSh.out.new q73)
  replace OSh := Lib.hid (OSh.out.new q73)
  have S74 := Lib.hid q73.size
  have S75 := Lib.hid sq73
  have HB_h0 := Lib.hid bq73
  have z_h0_0 : w72.cell? ⟨w69.heap.size, 0, none⟩ = some (.slice Ah Y.length ch) := (HB_h0.out.cell _).trans rfl
  clear q73 sq73 bq73
  refine (eqTable_t _ _ _ _ _ _ Y _ RSh.out RSw.out HTT.out.2.1 HTT.out.2.2).mono ?_
  rintro e w76 ⟨rfl, hc77⟩
  replace HCH := Lib.hid (HCH.out.trans hc77)
  replace HB_in := Lib.hid (HB_in.out.chg hc77 (fun x => x))
  replace z_in_0 := Chg.cell hc77 z_in_0 (fun x => x)
  replace HB_w0 := Lib.hid (HB_w0.out.chg hc77 (fun x => x))
  replace z_w0_0 := Chg.cell hc77 z_w0_0 (fun x => x)
  replace HB_x0 := Lib.hid (HB_x0.out.chg hc77 (fun x => x))
  replace z_x0_0 := Chg.cell hc77 z_x0_0 (fun x => x)
  replace HB_g0 := Lib.hid (HB_g0.out.chg hc77 (fun x => x))
  replace z_g0_0 := Chg.cell hc77 z_g0_0 (fun x => x)
  replace HB_h0 := Lib.hid (HB_h0.out.chg hc77 (fun x => x))
  replace z_h0_0 := Chg.cell hc77 z_h0_0 (fun x => x)
  replace HX := Lib.hid (HX.out.new hc77)
  replace HY := Lib.hid (HY.out.new hc77)
  replace RSw := Lib.hid (RSw.out.new hc77)
  replace OSw := Lib.hid (OSw.out.new hc77)
  replace RM := Lib.hid (RM.out.new hc77)
  replace RSh := Lib.hid (RSh.out.new hc77)
  replace OSh := Lib.hid (OSh.out.new hc77)
  have S78 := Lib.hid hc77.size
  clear hc77
  go_wp2_with fail
  refine (heldTable_any _ _ _ Y 1 _ RM.out HTT.out.1 (by omega) (by omega)).mono ?_
  rintro e w79 ⟨rfl, hc80⟩
  replace HCH := Lib.hid (HCH.out.trans hc80)
  replace HB_in := Lib.hid (HB_in.out.chg hc80 (fun x => x))
  replace z_in_0 := Chg.cell hc80 z_in_0 (fun x => x)
  replace HB_w0 := Lib.hid (HB_w0.out.chg hc80 (fun x => x))
  replace z_w0_0 := Chg.cell hc80 z_w0_0 (fun x => x)
  replace HB_x0 := Lib.hid (HB_x0.out.chg hc80 (fun x => x))
  replace z_x0_0 := Chg.cell hc80 z_x0_0 (fun x => x)
  replace HB_g0 := Lib.hid (HB_g0.out.chg hc80 (fun x => x))
  replace z_g0_0 := Chg.cell hc80 z_g0_0 (fun x => x)
  replace HB_h0 := Lib.hid (HB_h0.out.chg hc80 (fun x => x))
  replace z_h0_0 := Chg.cell hc80 z_h0_0 (fun x => x)
  replace HX := Lib.hid (HX.out.new hc80)
  replace HY := Lib.hid (HY.out.new hc80)
  replace RSw := Lib.hid (RSw.out.new hc80)
  replace OSw := Lib.hid (OSw.out.new hc80)
  replace RM := Lib.hid (RM.out.new hc80)
  replace RSh := Lib.hid (RSh.out.new hc80)
  replace OSh := Lib.hid (OSh.out.new hc80)
  have S81 := Lib.hid hc80.size
  clear hc80
  go_wp2
  go_ret
  exact ⟨rfl, HCH.out⟩
end Go.Proofs.Ytbgepefdfioljaa
