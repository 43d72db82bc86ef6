/- The law FnExactSaveTable: the walk. -/
import Derived.Test.YtbgepefdfioljaaTu
import Derived.Deep.RegionHeld3
namespace Go.Proofs.Ytbgepefdfioljaa
open Go.RowKit
set_option maxRecDepth 100000 in
set_option maxHeartbeats 4000000 in
theorem FnExactSaveTable_any (v : Value) (x : TbA) (n : Int) (w : World) (hx : TabIn w v x) :
    Calls Try.prog 5 #[v, .int .i64 n] w fun e w' => e = .returned (.bool true) ∧ Chg NoB w w' := by
  obtain ⟨A, c, X⟩ := x
  obtain ⟨rfl, h, hXl, hXr⟩ := hx
  simp only at h hXl hXr
  go_enter Try.func5, Try.ntmps5
  go_wp2_with fail
  have HCH := Lib.hid (Chg.refl NoB w)
  have HX := Lib.hid h
  clear h
  obtain ⟨w1, hw1⟩ : ∃ w1, w.alloc (.cells #[.slice A X.length c] 34) = w1 := ⟨_, rfl⟩
  try rw [hw1]
  have q2 : Chg NoB w w1 := by rw [← hw1]; exact (Chg.refl _ _).alloc _
  have bq2 : Blk w1 w.heap.size 34 #[.slice A X.length c] := by rw [← hw1]; exact Blk.new _ _ _
  have sq2 : w1.heap.size = w.heap.size + 1 := by rw [← hw1]; exact World.size_alloc ..
  clear hw1
  replace HCH := Lib.hid (HCH.out.trans q2)
  replace HX := Lib.hid (HX.out.new q2)
  have S3 := Lib.hid q2.size
  have S4 := Lib.hid sq2
  have HB_in := Lib.hid bq2
  have z_in_0 : w1.cell? ⟨w.heap.size, 0, none⟩ = some (.slice A X.length c) := (HB_in.out.cell _).trans rfl
  clear q2 sq2 bq2
  refine (szTable_g _ A c X 1048576 _ HX.out hXr hXl (by omega) (by omega)).mono ?_
  rintro e w5 ⟨rfl, hc6⟩
  replace HCH := Lib.hid (HCH.out.trans hc6)
  replace HB_in := Lib.hid (HB_in.out.chg hc6 (fun x => x))
  replace z_in_0 := Chg.cell hc6 z_in_0 (fun x => x)
  replace HX := Lib.hid (HX.out.new hc6)
  have S7 := Lib.hid hc6.size
  by_cases hl : 1048576 < total X
  · have hs : szOf 1048576 (total X) = -1 := by unfold szOf; rw [if_pos (by omega)]
    rw [hs]
    go_wp2
    go_ret
    exact ⟨rfl, HCH.out⟩
  have hl' : total X ≤ 1048576 := by omega
  have hs : szOf 1048576 (total X) = 1048576 - (total X : Int) := by unfold szOf; rw [if_neg (by omega)]
  rw [hs]
  have hnn : ¬ (1048576 - (total X : Int) < 0) := by omega
  have hXl2 : X.length ≤ 9223372036854775807 := by unfold maxLen at hXl; omega
  have hXr2 : ∀ r ∈ X, r.length ≤ 9223372036854775807 := fun r hr => by have := hXr r hr; unfold maxLen at this; omega
  have HXL := Lib.hid hXl2
  have HXR := Lib.hid hXr2
  have HL := Lib.hid hl'
  clear hs hXl hXr hXr2 hl
  go_wp2_with fail
  refine (toTable_any _ A c X _ HX.out HL.out).mono ?_
  rintro e w8 ⟨g1, T1, rfl, hT1, hc9, hO1⟩
  replace HCH := Lib.hid (HCH.out.trans hc9)
  replace HB_in := Lib.hid (HB_in.out.chg hc9 (fun x => x))
  replace z_in_0 := Chg.cell hc9 z_in_0 (fun x => x)
  replace HX := Lib.hid (HX.out.new hc9)
  have S10 := Lib.hid hc9.size
  have O1 := Lib.hid hO1
  have HT1 := Lib.hid hT1
  clear hO1 hT1 hc9
  have HR1_ := O1.out.reads
  rw [HT1.out] at HR1_
  have R1 := Lib.hid HR1_
  clear HR1_
  go_wp2_with fail
  refine (sSaveTable_any _ _ _ X n _ R1.out HXL.out HXR.out).mono ?_
  rintro e w11 ⟨N0, A0, c0, ys, S0, rfl, ho0, hcm0, hI0, hc12⟩
  replace HCH := Lib.hid (HCH.out.trans hc12)
  replace HB_in := Lib.hid (HB_in.out.chg hc12 (fun x => x))
  replace z_in_0 := Chg.cell hc12 z_in_0 (fun x => x)
  replace HX := Lib.hid (HX.out.new hc12)
  replace O1 := Lib.hid (O1.out.new hc12)
  replace R1 := Lib.hid (R1.out.new hc12)
  have S13 := Lib.hid hc12.size
  have W0 := Lib.hid ho0
  clear ho0 hc12
  clear O1
  clear R1
  have zz_in_0 := Chg.cell ((Chg.refl NoB w11).alloc (.cells #[.int .i64 N0, .slice A0 ys.length c0, .int .i64 S0] 37)) z_in_0 (fun x => x)
  go_wp2_with fail
  clear zz_in_0
  obtain ⟨w14, hw14⟩ : ∃ w14, w11.alloc (.cells #[.int .i64 N0, .slice A0 ys.length c0, .int .i64 S0] 37) = w14 := ⟨_, rfl⟩
  try rw [hw14]
  have q15 : Chg NoB w11 w14 := by rw [← hw14]; exact (Chg.refl _ _).alloc _
  have bq15 : Blk w14 w11.heap.size 37 #[.int .i64 N0, .slice A0 ys.length c0, .int .i64 S0] := by rw [← hw14]; exact Blk.new _ _ _
  have sq15 : w14.heap.size = w11.heap.size + 1 := by rw [← hw14]; exact World.size_alloc ..
  clear hw14
  replace HCH := Lib.hid (HCH.out.trans q15)
  replace HB_in := Lib.hid (HB_in.out.chg q15 (fun x => x))
  replace z_in_0 := Chg.cell q15 z_in_0 (fun x => x)
  replace HX := Lib.hid (HX.out.new q15)
  replace W0 := Lib.hid (W0.out.new q15)
  have S16 := Lib.hid q15.size
  have S17 := Lib.hid sq15
  have HB_w0 := Lib.hid bq15
  have z_w0_0 : w14.cell? ⟨w11.heap.size, 0, none⟩ = some (.int .i64 N0) := (HB_w0.out.cell _).trans rfl
  have z_w0_1 : w14.cell? ⟨w11.heap.size, 1, none⟩ = some (.slice A0 ys.length c0) := (HB_w0.out.cell _).trans rfl
  have z_w0_2 : w14.cell? ⟨w11.heap.size, 2, none⟩ = some (.int .i64 S0) := (HB_w0.out.cell _).trans rfl
  clear q15 sq15 bq15
  refine (toTable_any _ A c X _ HX.out HL.out).mono ?_
  rintro e w18 ⟨g2, T2, rfl, hT2, hc19, hO2⟩
  replace HCH := Lib.hid (HCH.out.trans hc19)
  replace HB_in := Lib.hid (HB_in.out.chg hc19 (fun x => x))
  replace z_in_0 := Chg.cell hc19 z_in_0 (fun x => x)
  replace HB_w0 := Lib.hid (HB_w0.out.chg hc19 (fun x => x))
  replace z_w0_0 := Chg.cell hc19 z_w0_0 (fun x => x)
  replace z_w0_1 := Chg.cell hc19 z_w0_1 (fun x => x)
  replace z_w0_2 := Chg.cell hc19 z_w0_2 (fun x => x)
  replace HX := Lib.hid (HX.out.new hc19)
  replace W0 := Lib.hid (W0.out.new hc19)
  have S20 := Lib.hid hc19.size
  have O2 := Lib.hid hO2
  have HT2 := Lib.hid hT2
  clear hO2 hT2 hc19
  have HR2_ := O2.out.reads
  rw [HT2.out] at HR2_
  have R2 := Lib.hid HR2_
  clear HR2_
  have zz_in_0 := Chg.cell ((Chg.refl NoB w18).alloc (.cells #[.slice (some ⟨g2, 0, none⟩) X.length X.length] 39)) z_in_0 (fun x => x)
  have zz_w0_0 := Chg.cell ((Chg.refl NoB w18).alloc (.cells #[.slice (some ⟨g2, 0, none⟩) X.length X.length] 39)) z_w0_0 (fun x => x)
  have zz_w0_1 := Chg.cell ((Chg.refl NoB w18).alloc (.cells #[.slice (some ⟨g2, 0, none⟩) X.length X.length] 39)) z_w0_1 (fun x => x)
  have zz_w0_2 := Chg.cell ((Chg.refl NoB w18).alloc (.cells #[.slice (some ⟨g2, 0, none⟩) X.length X.length] 39)) z_w0_2 (fun x => x)
  go_wp2_with fail
  clear zz_in_0 zz_w0_0 zz_w0_1 zz_w0_2
  obtain ⟨w21, hw21⟩ : ∃ w21, w18.alloc (.cells #[.slice (some ⟨g2, 0, none⟩) X.length X.length] 39) = w21 := ⟨_, rfl⟩
  try rw [hw21]
  have q22 : Chg NoB w18 w21 := by rw [← hw21]; exact (Chg.refl _ _).alloc _
  have bq22 : Blk w21 w18.heap.size 39 #[.slice (some ⟨g2, 0, none⟩) X.length X.length] := by rw [← hw21]; exact Blk.new _ _ _
  have sq22 : w21.heap.size = w18.heap.size + 1 := by rw [← hw21]; exact World.size_alloc ..
  clear hw21
  replace HCH := Lib.hid (HCH.out.trans q22)
  replace HB_in := Lib.hid (HB_in.out.chg q22 (fun x => x))
  replace z_in_0 := Chg.cell q22 z_in_0 (fun x => x)
  replace HB_w0 := Lib.hid (HB_w0.out.chg q22 (fun x => x))
  replace z_w0_0 := Chg.cell q22 z_w0_0 (fun x => x)
  replace z_w0_1 := Chg.cell q22 z_w0_1 (fun x => x)
  replace z_w0_2 := Chg.cell q22 z_w0_2 (fun x => x)
  replace HX := Lib.hid (HX.out.new q22)
  replace W0 := Lib.hid (W0.out.new q22)
  replace O2 := Lib.hid (O2.out.new q22)
  replace R2 := Lib.hid (R2.out.new q22)
  have S23 := Lib.hid q22.size
  have S24 := Lib.hid sq22
  have HB_x0 := Lib.hid bq22
  have z_x0_0 : w21.cell? ⟨w18.heap.size, 0, none⟩ = some (.slice (some ⟨g2, 0, none⟩) X.length X.length) := (HB_x0.out.cell _).trans rfl
  clear q22 sq22 bq22
  refine (iSaveTable_any _ _ _ X n _ R2.out).mono ?_
  rintro e w25 ⟨N1, A1, c1, ys1, S1, rfl, ho1, hcm1, hI1, hc26⟩
  replace HCH := Lib.hid (HCH.out.trans hc26)
  replace HB_in := Lib.hid (HB_in.out.chg hc26 (fun x => x))
  replace z_in_0 := Chg.cell hc26 z_in_0 (fun x => x)
  replace HB_w0 := Lib.hid (HB_w0.out.chg hc26 (fun x => x))
  replace z_w0_0 := Chg.cell hc26 z_w0_0 (fun x => x)
  replace z_w0_1 := Chg.cell hc26 z_w0_1 (fun x => x)
  replace z_w0_2 := Chg.cell hc26 z_w0_2 (fun x => x)
  replace HB_x0 := Lib.hid (HB_x0.out.chg hc26 (fun x => x))
  replace z_x0_0 := Chg.cell hc26 z_x0_0 (fun x => x)
  replace HX := Lib.hid (HX.out.new hc26)
  replace W0 := Lib.hid (W0.out.new hc26)
  replace O2 := Lib.hid (O2.out.new hc26)
  replace R2 := Lib.hid (R2.out.new hc26)
  have S27 := Lib.hid hc26.size
  have G0 := Lib.hid ho1
  clear ho1 hc26
  obtain ⟨rfl, rfl, rfl⟩ := hI0.out.det hI1.out
  have hyl : ys.length ≤ 48 := by
    by_cases ha : savArgs X n
    · rw [(hI0.out.1 ha).2.1, flat_len ha.1]; omega
    · rw [(hI0.out.2 ha).2.1]; simp
  have HYL := Lib.hid hyl
  have zz_in_0 := Chg.cell ((Chg.refl NoB w25).alloc (.cells #[.int .i64 N0, .slice A1 ys.length c1, .int .i64 S0] 37)) z_in_0 (fun x => x)
  have zz_w0_0 := Chg.cell ((Chg.refl NoB w25).alloc (.cells #[.int .i64 N0, .slice A1 ys.length c1, .int .i64 S0] 37)) z_w0_0 (fun x => x)
  have zz_w0_1 := Chg.cell ((Chg.refl NoB w25).alloc (.cells #[.int .i64 N0, .slice A1 ys.length c1, .int .i64 S0] 37)) z_w0_1 (fun x => x)
  have zz_w0_2 := Chg.cell ((Chg.refl NoB w25).alloc (.cells #[.int .i64 N0, .slice A1 ys.length c1, .int .i64 S0] 37)) z_w0_2 (fun x => x)
  have zz_x0_0 := Chg.cell ((Chg.refl NoB w25).alloc (.cells #[.int .i64 N0, .slice A1 ys.length c1, .int .i64 S0] 37)) z_x0_0 (fun x => x)
  go_wp2_with fail
  clear zz_in_0 zz_w0_0 zz_w0_1 zz_w0_2 zz_x0_0
  obtain ⟨w28, hw28⟩ : ∃ w28, w25.alloc (.cells #[.int .i64 N0, .slice A1 ys.length c1, .int .i64 S0] 37) = w28 := ⟨_, rfl⟩
  try rw [hw28]
  have q29 : Chg NoB w25 w28 := by rw [← hw28]; exact (Chg.refl _ _).alloc _
  have bq29 : Blk w28 w25.heap.size 37 #[.int .i64 N0, .slice A1 ys.length c1, .int .i64 S0] := by rw [← hw28]; exact Blk.new _ _ _
  have sq29 : w28.heap.size = w25.heap.size + 1 := by rw [← hw28]; exact World.size_alloc ..
  clear hw28
  replace HCH := Lib.hid (HCH.out.trans q29)
  replace HB_in := Lib.hid (HB_in.out.chg q29 (fun x => x))
  replace z_in_0 := Chg.cell q29 z_in_0 (fun x => x)
  replace HB_w0 := Lib.hid (HB_w0.out.chg q29 (fun x => x))
  replace z_w0_0 := Chg.cell q29 z_w0_0 (fun x => x)
  replace z_w0_1 := Chg.cell q29 z_w0_1 (fun x => x)
  replace z_w0_2 := Chg.cell q29 z_w0_2 (fun x => x)
  replace HB_x0 := Lib.hid (HB_x0.out.chg q29 (fun x => x))
  replace z_x0_0 := Chg.cell q29 z_x0_0 (fun x => x)
  replace HX := Lib.hid (HX.out.new q29)
  replace W0 := Lib.hid (W0.out.new q29)
  replace O2 := Lib.hid (O2.out.new q29)
  replace R2 := Lib.hid (R2.out.new q29)
  replace G0 := Lib.hid (G0.out.new q29)
  have S30 := Lib.hid q29.size
  have S31 := Lib.hid sq29
  have HB_g0 := Lib.hid bq29
  have z_g0_0 : w28.cell? ⟨w25.heap.size, 0, none⟩ = some (.int .i64 N0) := (HB_g0.out.cell _).trans rfl
  have z_g0_1 : w28.cell? ⟨w25.heap.size, 1, none⟩ = some (.slice A1 ys.length c1) := (HB_g0.out.cell _).trans rfl
  have z_g0_2 : w28.cell? ⟨w25.heap.size, 2, none⟩ = some (.int .i64 S0) := (HB_g0.out.cell _).trans rfl
  clear q29 sq29 bq29
  refine (eqSave_t _ _ N0 S0 _ _ _ _ ys _ G0.out.rd W0.out.rd (by omega)).mono ?_
  rintro e w32 ⟨rfl, hc33⟩
  replace HCH := Lib.hid (HCH.out.trans hc33)
  replace HB_in := Lib.hid (HB_in.out.chg hc33 (fun x => x))
  replace z_in_0 := Chg.cell hc33 z_in_0 (fun x => x)
  replace HB_w0 := Lib.hid (HB_w0.out.chg hc33 (fun x => x))
  replace z_w0_0 := Chg.cell hc33 z_w0_0 (fun x => x)
  replace z_w0_1 := Chg.cell hc33 z_w0_1 (fun x => x)
  replace z_w0_2 := Chg.cell hc33 z_w0_2 (fun x => x)
  replace HB_x0 := Lib.hid (HB_x0.out.chg hc33 (fun x => x))
  replace z_x0_0 := Chg.cell hc33 z_x0_0 (fun x => x)
  replace HB_g0 := Lib.hid (HB_g0.out.chg hc33 (fun x => x))
  replace z_g0_0 := Chg.cell hc33 z_g0_0 (fun x => x)
  replace z_g0_1 := Chg.cell hc33 z_g0_1 (fun x => x)
  replace z_g0_2 := Chg.cell hc33 z_g0_2 (fun x => x)
  replace HX := Lib.hid (HX.out.new hc33)
  replace W0 := Lib.hid (W0.out.new hc33)
  replace O2 := Lib.hid (O2.out.new hc33)
  replace R2 := Lib.hid (R2.out.new hc33)
  replace G0 := Lib.hid (G0.out.new hc33)
  have S34 := Lib.hid hc33.size
  clear hc33
  go_wp2_with fail
  have hTl : TabO _ _ _ _ _ T2 := O2.out
  clear hTl
  go_region_held3 (fun w' => w'.cell? ⟨w.heap.size, 0, none⟩ = some (.slice A X.length c) ∧ w'.cell? ⟨w18.heap.size, 0, none⟩ = some (.slice (some ⟨g2, 0, none⟩) X.length X.length))
    (first | go_keep | exact ⟨hcc.cell (by assumption) (fun x => x), hcc.cell (by assumption) (fun x => x)⟩ | exact ⟨(HK.out.trans hcc).cell (by assumption) (fun x => x), (HK.out.trans hcc).cell (by assumption) (fun x => x)⟩)
    (first
      | (go_at_call 21; refine (toTable_any _ A c X _ (HX.out.new (Chg.refl NoB w32).drew) HL.out).mono ?_; rintro e' wt ⟨gt, Tt, rfl, hTt, hcc, hOt⟩; have HK := Lib.hid hcc; have HOt := Lib.hid hOt; have HTt := Lib.hid hTt)
      | (go_at_call 24; refine (eqTable_t _ _ _ _ _ _ X _ ((R2.out.new (Chg.refl NoB w32).drew).new HK.out) (by have := HOt.out.reads; rw [HTt.out] at this; exact this) HXL.out HXR.out).mono ?_; rintro e' we ⟨rfl, hcc⟩))
  have hrg : Chg NoB w32 we := ((Chg.refl NoB w32).drew.trans HK.out).trans hcc
  replace HCH := Lib.hid (HCH.out.trans hrg)
  replace HB_in := Lib.hid (HB_in.out.chg hrg (fun x => x))
  replace z_in_0 := Chg.cell hrg z_in_0 (fun x => x)
  replace HB_w0 := Lib.hid (HB_w0.out.chg hrg (fun x => x))
  replace z_w0_0 := Chg.cell hrg z_w0_0 (fun x => x)
  replace z_w0_1 := Chg.cell hrg z_w0_1 (fun x => x)
  replace z_w0_2 := Chg.cell hrg z_w0_2 (fun x => x)
  replace HB_x0 := Lib.hid (HB_x0.out.chg hrg (fun x => x))
  replace z_x0_0 := Chg.cell hrg z_x0_0 (fun x => x)
  replace HB_g0 := Lib.hid (HB_g0.out.chg hrg (fun x => x))
  replace z_g0_0 := Chg.cell hrg z_g0_0 (fun x => x)
  replace z_g0_1 := Chg.cell hrg z_g0_1 (fun x => x)
  replace z_g0_2 := Chg.cell hrg z_g0_2 (fun x => x)
  replace HX := Lib.hid (HX.out.new hrg)
  replace W0 := Lib.hid (W0.out.new hrg)
  replace O2 := Lib.hid (O2.out.new hrg)
  replace R2 := Lib.hid (R2.out.new hrg)
  replace G0 := Lib.hid (G0.out.new hrg)
  have S35 := Lib.hid hrg.size
  clear hrg hcc HK HOt HTt
  have hT2l : T2.length = X.length := by rw [← listsOf_length, HT2.out]
  go_wp2_with fail
  have hmk := markTable_any _ _ _ _ T2 1 we O2.out (by rw [HT2.out]; exact HL.out) (by omega) (by omega)
  rw [hT2l, HT2.out] at hmk
  have HMK := Lib.hid hmk
  clear hmk
  refine (HMK.out).mono ?_
  rintro e w36 ⟨T2m, rfl, hc37, -, -, -⟩
  clear R2
  replace HCH := Lib.hid (HCH.out.trans' hc37 (fun i hi => .inr (by have := S3.out; have := S4.out; have := S7.out; have := S10.out; have := S13.out; have := S16.out; have := S17.out; have := S20.out; have := S23.out; have := S24.out; have := S27.out; have := S30.out; have := S31.out; have := S34.out; have := S35.out; omega)))
  replace HB_in := Lib.hid (HB_in.out.chg hc37 (by have := S3.out; have := S4.out; have := S7.out; have := S10.out; have := S13.out; have := S16.out; have := S17.out; have := S20.out; have := S23.out; have := S24.out; have := S27.out; have := S30.out; have := S31.out; have := S34.out; have := S35.out; omega))
  replace z_in_0 := Chg.cell hc37 z_in_0 (by simp only; have := S3.out; have := S4.out; have := S7.out; have := S10.out; have := S13.out; have := S16.out; have := S17.out; have := S20.out; have := S23.out; have := S24.out; have := S27.out; have := S30.out; have := S31.out; have := S34.out; have := S35.out; omega)
  replace HB_w0 := Lib.hid (HB_w0.out.chg hc37 (by have := S3.out; have := S4.out; have := S7.out; have := S10.out; have := S13.out; have := S16.out; have := S17.out; have := S20.out; have := S23.out; have := S24.out; have := S27.out; have := S30.out; have := S31.out; have := S34.out; have := S35.out; omega))
  replace z_w0_0 := Chg.cell hc37 z_w0_0 (by simp only; have := S3.out; have := S4.out; have := S7.out; have := S10.out; have := S13.out; have := S16.out; have := S17.out; have := S20.out; have := S23.out; have := S24.out; have := S27.out; have := S30.out; have := S31.out; have := S34.out; have := S35.out; omega)
  replace z_w0_1 := Chg.cell hc37 z_w0_1 (by simp only; have := S3.out; have := S4.out; have := S7.out; have := S10.out; have := S13.out; have := S16.out; have := S17.out; have := S20.out; have := S23.out; have := S24.out; have := S27.out; have := S30.out; have := S31.out; have := S34.out; have := S35.out; omega)
  replace z_w0_2 := Chg.cell hc37 z_w0_2 (by simp only; have := S3.out; have := S4.out; have := S7.out; have := S10.out; have := S13.out; have := S16.out; have := S17.out; have := S20.out; have := S23.out; have := S24.out; have := S27.out; have := S30.out; have := S31.out; have := S34.out; have := S35.out; omega)
  replace HB_x0 := Lib.hid (HB_x0.out.chg hc37 (by have := S3.out; have := S4.out; have := S7.out; have := S10.out; have := S13.out; have := S16.out; have := S17.out; have := S20.out; have := S23.out; have := S24.out; have := S27.out; have := S30.out; have := S31.out; have := S34.out; have := S35.out; omega))
  replace z_x0_0 := Chg.cell hc37 z_x0_0 (by simp only; have := S3.out; have := S4.out; have := S7.out; have := S10.out; have := S13.out; have := S16.out; have := S17.out; have := S20.out; have := S23.out; have := S24.out; have := S27.out; have := S30.out; have := S31.out; have := S34.out; have := S35.out; omega)
  replace HB_g0 := Lib.hid (HB_g0.out.chg hc37 (by have := S3.out; have := S4.out; have := S7.out; have := S10.out; have := S13.out; have := S16.out; have := S17.out; have := S20.out; have := S23.out; have := S24.out; have := S27.out; have := S30.out; have := S31.out; have := S34.out; have := S35.out; omega))
  replace z_g0_0 := Chg.cell hc37 z_g0_0 (by simp only; have := S3.out; have := S4.out; have := S7.out; have := S10.out; have := S13.out; have := S16.out; have := S17.out; have := S20.out; have := S23.out; have := S24.out; have := S27.out; have := S30.out; have := S31.out; have := S34.out; have := S35.out; omega)
  replace z_g0_1 := Chg.cell hc37 z_g0_1 (by simp only; have := S3.out; have := S4.out; have := S7.out; have := S10.out; have := S13.out; have := S16.out; have := S17.out; have := S20.out; have := S23.out; have := S24.out; have := S27.out; have := S30.out; have := S31.out; have := S34.out; have := S35.out; omega)
  replace z_g0_2 := Chg.cell hc37 z_g0_2 (by simp only; have := S3.out; have := S4.out; have := S7.out; have := S10.out; have := S13.out; have := S16.out; have := S17.out; have := S20.out; have := S23.out; have := S24.out; have := S27.out; have := S30.out; have := S31.out; have := S34.out; have := S35.out; omega)
  replace HX := Lib.hid (HX.out.chg hc37 (fun i h1 h2 => by have := S3.out; have := S4.out; have := S7.out; have := S10.out; have := S13.out; have := S16.out; have := S17.out; have := S20.out; have := S23.out; have := S24.out; have := S27.out; have := S30.out; have := S31.out; have := S34.out; have := S35.out; omega))
  replace W0 := Lib.hid (W0.out.chg hc37 (fun i h1 h2 h3 => by have := S3.out; have := S4.out; have := S7.out; have := S10.out; have := S13.out; have := S16.out; have := S17.out; have := S20.out; have := S23.out; have := S24.out; have := S27.out; have := S30.out; have := S31.out; have := S34.out; have := S35.out; omega))
  replace G0 := Lib.hid (G0.out.chg hc37 (fun i h1 h2 h3 => by have := S3.out; have := S4.out; have := S7.out; have := S10.out; have := S13.out; have := S16.out; have := S17.out; have := S20.out; have := S23.out; have := S24.out; have := S27.out; have := S30.out; have := S31.out; have := S34.out; have := S35.out; omega))
  have S38 := Lib.hid hc37.size
  clear hc37
  have hk0 : ¬ ((1 : Int) + ((lens X : Nat) : Int) < 0) := by omega
  clear O2
  go_wp2_with fail
  refine (eqSave_t _ _ N0 S0 _ _ _ _ ys _ G0.out.rd W0.out.rd (by omega)).mono ?_
  rintro e w39 ⟨rfl, hc40⟩
  replace HCH := Lib.hid (HCH.out.trans hc40)
  replace HB_in := Lib.hid (HB_in.out.chg hc40 (fun x => x))
  replace z_in_0 := Chg.cell hc40 z_in_0 (fun x => x)
  replace HB_w0 := Lib.hid (HB_w0.out.chg hc40 (fun x => x))
  replace z_w0_0 := Chg.cell hc40 z_w0_0 (fun x => x)
  replace z_w0_1 := Chg.cell hc40 z_w0_1 (fun x => x)
  replace z_w0_2 := Chg.cell hc40 z_w0_2 (fun x => x)
  replace HB_x0 := Lib.hid (HB_x0.out.chg hc40 (fun x => x))
  replace z_x0_0 := Chg.cell hc40 z_x0_0 (fun x => x)
  replace HB_g0 := Lib.hid (HB_g0.out.chg hc40 (fun x => x))
  replace z_g0_0 := Chg.cell hc40 z_g0_0 (fun x => x)
  replace z_g0_1 := Chg.cell hc40 z_g0_1 (fun x => x)
  replace z_g0_2 := Chg.cell hc40 z_g0_2 (fun x => x)
  replace HX := Lib.hid (HX.out.new hc40)
  replace W0 := Lib.hid (W0.out.new hc40)
  replace G0 := Lib.hid (G0.out.new hc40)
  have S41 := Lib.hid hc40.size
  clear hc40
  go_wp2_with fail
  refine (markSave_any _ _ N0 S0 _ _ ys 1 _ G0.out (by have := HYL.out; omega) (by omega) (by omega)).mono ?_
  rintro e w42 ⟨rfl, hc43, hoM⟩
  replace HCH := Lib.hid (HCH.out.trans' hc43 (fun i hi => .inr (by have := S3.out; have := S4.out; have := S7.out; have := S10.out; have := S13.out; have := S16.out; have := S17.out; have := S20.out; have := S23.out; have := S24.out; have := S27.out; have := S30.out; have := S31.out; have := S34.out; have := S35.out; have := S38.out; have := S41.out; omega)))
  replace HB_in := Lib.hid (HB_in.out.chg hc43 (by have := S3.out; have := S4.out; have := S7.out; have := S10.out; have := S13.out; have := S16.out; have := S17.out; have := S20.out; have := S23.out; have := S24.out; have := S27.out; have := S30.out; have := S31.out; have := S34.out; have := S35.out; have := S38.out; have := S41.out; omega))
  replace z_in_0 := Chg.cell hc43 z_in_0 (by simp only; have := S3.out; have := S4.out; have := S7.out; have := S10.out; have := S13.out; have := S16.out; have := S17.out; have := S20.out; have := S23.out; have := S24.out; have := S27.out; have := S30.out; have := S31.out; have := S34.out; have := S35.out; have := S38.out; have := S41.out; omega)
  replace HB_w0 := Lib.hid (HB_w0.out.chg hc43 (by have := S3.out; have := S4.out; have := S7.out; have := S10.out; have := S13.out; have := S16.out; have := S17.out; have := S20.out; have := S23.out; have := S24.out; have := S27.out; have := S30.out; have := S31.out; have := S34.out; have := S35.out; have := S38.out; have := S41.out; omega))
  replace z_w0_0 := Chg.cell hc43 z_w0_0 (by simp only; have := S3.out; have := S4.out; have := S7.out; have := S10.out; have := S13.out; have := S16.out; have := S17.out; have := S20.out; have := S23.out; have := S24.out; have := S27.out; have := S30.out; have := S31.out; have := S34.out; have := S35.out; have := S38.out; have := S41.out; omega)
  replace z_w0_1 := Chg.cell hc43 z_w0_1 (by simp only; have := S3.out; have := S4.out; have := S7.out; have := S10.out; have := S13.out; have := S16.out; have := S17.out; have := S20.out; have := S23.out; have := S24.out; have := S27.out; have := S30.out; have := S31.out; have := S34.out; have := S35.out; have := S38.out; have := S41.out; omega)
  replace z_w0_2 := Chg.cell hc43 z_w0_2 (by simp only; have := S3.out; have := S4.out; have := S7.out; have := S10.out; have := S13.out; have := S16.out; have := S17.out; have := S20.out; have := S23.out; have := S24.out; have := S27.out; have := S30.out; have := S31.out; have := S34.out; have := S35.out; have := S38.out; have := S41.out; omega)
  replace HB_x0 := Lib.hid (HB_x0.out.chg hc43 (by have := S3.out; have := S4.out; have := S7.out; have := S10.out; have := S13.out; have := S16.out; have := S17.out; have := S20.out; have := S23.out; have := S24.out; have := S27.out; have := S30.out; have := S31.out; have := S34.out; have := S35.out; have := S38.out; have := S41.out; omega))
  replace z_x0_0 := Chg.cell hc43 z_x0_0 (by simp only; have := S3.out; have := S4.out; have := S7.out; have := S10.out; have := S13.out; have := S16.out; have := S17.out; have := S20.out; have := S23.out; have := S24.out; have := S27.out; have := S30.out; have := S31.out; have := S34.out; have := S35.out; have := S38.out; have := S41.out; omega)
  replace HB_g0 := Lib.hid (HB_g0.out.chg hc43 (by have := S3.out; have := S4.out; have := S7.out; have := S10.out; have := S13.out; have := S16.out; have := S17.out; have := S20.out; have := S23.out; have := S24.out; have := S27.out; have := S30.out; have := S31.out; have := S34.out; have := S35.out; have := S38.out; have := S41.out; omega))
  replace z_g0_0 := Chg.cell hc43 z_g0_0 (by simp only; have := S3.out; have := S4.out; have := S7.out; have := S10.out; have := S13.out; have := S16.out; have := S17.out; have := S20.out; have := S23.out; have := S24.out; have := S27.out; have := S30.out; have := S31.out; have := S34.out; have := S35.out; have := S38.out; have := S41.out; omega)
  replace z_g0_1 := Chg.cell hc43 z_g0_1 (by simp only; have := S3.out; have := S4.out; have := S7.out; have := S10.out; have := S13.out; have := S16.out; have := S17.out; have := S20.out; have := S23.out; have := S24.out; have := S27.out; have := S30.out; have := S31.out; have := S34.out; have := S35.out; have := S38.out; have := S41.out; omega)
  replace z_g0_2 := Chg.cell hc43 z_g0_2 (by simp only; have := S3.out; have := S4.out; have := S7.out; have := S10.out; have := S13.out; have := S16.out; have := S17.out; have := S20.out; have := S23.out; have := S24.out; have := S27.out; have := S30.out; have := S31.out; have := S34.out; have := S35.out; have := S38.out; have := S41.out; omega)
  replace HX := Lib.hid (HX.out.chg hc43 (fun i h1 h2 => by have := S3.out; have := S4.out; have := S7.out; have := S10.out; have := S13.out; have := S16.out; have := S17.out; have := S20.out; have := S23.out; have := S24.out; have := S27.out; have := S30.out; have := S31.out; have := S34.out; have := S35.out; have := S38.out; have := S41.out; omega))
  replace W0 := Lib.hid (W0.out.chg hc43 (fun i h1 h2 h3 => by have := S3.out; have := S4.out; have := S7.out; have := S10.out; have := S13.out; have := S16.out; have := S17.out; have := S20.out; have := S23.out; have := S24.out; have := S27.out; have := S30.out; have := S31.out; have := S34.out; have := S35.out; have := S38.out; have := S41.out; omega))
  have S44 := Lib.hid hc43.size
  clear G0 hc43
  have GM := Lib.hid hoM
  clear hoM
  go_wp2_with fail
  refine (heldSave_any _ N0 S0 _ _ ys.length 1 _ GM.out.rd (by have := HYL.out; omega) (by omega) (by omega)).mono ?_
  rintro e w45 ⟨rfl, hc46⟩
  replace HCH := Lib.hid (HCH.out.trans hc46)
  replace HB_in := Lib.hid (HB_in.out.chg hc46 (fun x => x))
  replace z_in_0 := Chg.cell hc46 z_in_0 (fun x => x)
  replace HB_w0 := Lib.hid (HB_w0.out.chg hc46 (fun x => x))
  replace z_w0_0 := Chg.cell hc46 z_w0_0 (fun x => x)
  replace z_w0_1 := Chg.cell hc46 z_w0_1 (fun x => x)
  replace z_w0_2 := Chg.cell hc46 z_w0_2 (fun x => x)
  replace HB_x0 := Lib.hid (HB_x0.out.chg hc46 (fun x => x))
  replace z_x0_0 := Chg.cell hc46 z_x0_0 (fun x => x)
  replace HB_g0 := Lib.hid (HB_g0.out.chg hc46 (fun x => x))
  replace z_g0_0 := Chg.cell hc46 z_g0_0 (fun x => x)
  replace z_g0_1 := Chg.cell hc46 z_g0_1 (fun x => x)
  replace z_g0_2 := Chg.cell hc46 z_g0_2 (fun x => x)
  replace HX := Lib.hid (HX.out.new hc46)
  replace W0 := Lib.hid (W0.out.new hc46)
  replace GM := Lib.hid (GM.out.new hc46)
  have S47 := Lib.hid hc46.size
  clear hc46
  have hm0 : ¬ ((1 : Int) + (ys.length : Int) < 0) := by omega
  have hmm : (((1 : Int) + (ys.length : Int)) != ((1 : Int) + (ys.length : Int))) = false := by simp
  go_wp2_with fail
  refine (toTable_any _ A c X _ HX.out HL.out).mono ?_
  rintro e w48 ⟨g3, T3, rfl, hT3, hc49, hO3⟩
  replace HCH := Lib.hid (HCH.out.trans hc49)
  replace HB_in := Lib.hid (HB_in.out.chg hc49 (fun x => x))
  replace z_in_0 := Chg.cell hc49 z_in_0 (fun x => x)
  replace HB_w0 := Lib.hid (HB_w0.out.chg hc49 (fun x => x))
  replace z_w0_0 := Chg.cell hc49 z_w0_0 (fun x => x)
  replace z_w0_1 := Chg.cell hc49 z_w0_1 (fun x => x)
  replace z_w0_2 := Chg.cell hc49 z_w0_2 (fun x => x)
  replace HB_x0 := Lib.hid (HB_x0.out.chg hc49 (fun x => x))
  replace z_x0_0 := Chg.cell hc49 z_x0_0 (fun x => x)
  replace HB_g0 := Lib.hid (HB_g0.out.chg hc49 (fun x => x))
  replace z_g0_0 := Chg.cell hc49 z_g0_0 (fun x => x)
  replace z_g0_1 := Chg.cell hc49 z_g0_1 (fun x => x)
  replace z_g0_2 := Chg.cell hc49 z_g0_2 (fun x => x)
  replace HX := Lib.hid (HX.out.new hc49)
  replace W0 := Lib.hid (W0.out.new hc49)
  replace GM := Lib.hid (GM.out.new hc49)
  have S50 := Lib.hid hc49.size
  have O3 := Lib.hid hO3
  have HT3 := Lib.hid hT3
  clear hO3 hT3 hc49
  have HR3_ := O3.out.reads
  rw [HT3.out] at HR3_
  have R3 := Lib.hid HR3_
  clear HR3_
  go_wp2_with fail
  refine (iSaveTable_any _ _ _ X n _ R3.out).mono ?_
  rintro e w51 ⟨N2, A2, c2, ys2, S2, rfl, ho2, hcm2, hI2, hc52⟩
  replace HCH := Lib.hid (HCH.out.trans hc52)
  replace HB_in := Lib.hid (HB_in.out.chg hc52 (fun x => x))
  replace z_in_0 := Chg.cell hc52 z_in_0 (fun x => x)
  replace HB_w0 := Lib.hid (HB_w0.out.chg hc52 (fun x => x))
  replace z_w0_0 := Chg.cell hc52 z_w0_0 (fun x => x)
  replace z_w0_1 := Chg.cell hc52 z_w0_1 (fun x => x)
  replace z_w0_2 := Chg.cell hc52 z_w0_2 (fun x => x)
  replace HB_x0 := Lib.hid (HB_x0.out.chg hc52 (fun x => x))
  replace z_x0_0 := Chg.cell hc52 z_x0_0 (fun x => x)
  replace HB_g0 := Lib.hid (HB_g0.out.chg hc52 (fun x => x))
  replace z_g0_0 := Chg.cell hc52 z_g0_0 (fun x => x)
  replace z_g0_1 := Chg.cell hc52 z_g0_1 (fun x => x)
  replace z_g0_2 := Chg.cell hc52 z_g0_2 (fun x => x)
  replace HX := Lib.hid (HX.out.new hc52)
  replace W0 := Lib.hid (W0.out.new hc52)
  replace GM := Lib.hid (GM.out.new hc52)
  replace O3 := Lib.hid (O3.out.new hc52)
  replace R3 := Lib.hid (R3.out.new hc52)
  have S53 := Lib.hid hc52.size
  have G2 := Lib.hid ho2
  clear ho2 hc52
  clear O3
  clear R3
  obtain ⟨rfl, rfl, rfl⟩ := hI0.out.det hI2.out
  have zz_in_0 := Chg.cell ((Chg.refl NoB w51).alloc (.cells #[.int .i64 N0, .slice A2 ys.length c2, .int .i64 S0] 37)) z_in_0 (fun x => x)
  have zz_w0_0 := Chg.cell ((Chg.refl NoB w51).alloc (.cells #[.int .i64 N0, .slice A2 ys.length c2, .int .i64 S0] 37)) z_w0_0 (fun x => x)
  have zz_w0_1 := Chg.cell ((Chg.refl NoB w51).alloc (.cells #[.int .i64 N0, .slice A2 ys.length c2, .int .i64 S0] 37)) z_w0_1 (fun x => x)
  have zz_w0_2 := Chg.cell ((Chg.refl NoB w51).alloc (.cells #[.int .i64 N0, .slice A2 ys.length c2, .int .i64 S0] 37)) z_w0_2 (fun x => x)
  have zz_x0_0 := Chg.cell ((Chg.refl NoB w51).alloc (.cells #[.int .i64 N0, .slice A2 ys.length c2, .int .i64 S0] 37)) z_x0_0 (fun x => x)
  have zz_g0_0 := Chg.cell ((Chg.refl NoB w51).alloc (.cells #[.int .i64 N0, .slice A2 ys.length c2, .int .i64 S0] 37)) z_g0_0 (fun x => x)
  have zz_g0_1 := Chg.cell ((Chg.refl NoB w51).alloc (.cells #[.int .i64 N0, .slice A2 ys.length c2, .int .i64 S0] 37)) z_g0_1 (fun x => x)
  have zz_g0_2 := Chg.cell ((Chg.refl NoB w51).alloc (.cells #[.int .i64 N0, .slice A2 ys.length c2, .int .i64 S0] 37)) z_g0_2 (fun x => x)
  go_wp2_with fail
  clear zz_in_0 zz_w0_0 zz_w0_1 zz_w0_2 zz_x0_0 zz_g0_0 zz_g0_1 zz_g0_2
  obtain ⟨w54, hw54⟩ : ∃ w54, w51.alloc (.cells #[.int .i64 N0, .slice A2 ys.length c2, .int .i64 S0] 37) = w54 := ⟨_, rfl⟩
  try rw [hw54]
  have q55 : Chg NoB w51 w54 := by rw [← hw54]; exact (Chg.refl _ _).alloc _
  have bq55 : Blk w54 w51.heap.size 37 #[.int .i64 N0, .slice A2 ys.length c2, .int .i64 S0] := by rw [← hw54]; exact Blk.new _ _ _
  have sq55 : w54.heap.size = w51.heap.size + 1 := by rw [← hw54]; exact World.size_alloc ..
  clear hw54
  replace HCH := Lib.hid (HCH.out.trans q55)
  replace HB_in := Lib.hid (HB_in.out.chg q55 (fun x => x))
  replace z_in_0 := Chg.cell q55 z_in_0 (fun x => x)
  replace HB_w0 := Lib.hid (HB_w0.out.chg q55 (fun x => x))
  replace z_w0_0 := Chg.cell q55 z_w0_0 (fun x => x)
  replace z_w0_1 := Chg.cell q55 z_w0_1 (fun x => x)
  replace z_w0_2 := Chg.cell q55 z_w0_2 (fun x => x)
  replace HB_x0 := Lib.hid (HB_x0.out.chg q55 (fun x => x))
  replace z_x0_0 := Chg.cell q55 z_x0_0 (fun x => x)
  replace HB_g0 := Lib.hid (HB_g0.out.chg q55 (fun x => x))
  replace z_g0_0 := Chg.cell q55 z_g0_0 (fun x => x)
  replace z_g0_1 := Chg.cell q55 z_g0_1 (fun x => x)
  replace z_g0_2 := Chg.cell q55 z_g0_2 (fun x => x)
  replace HX := Lib.hid (HX.out.new q55)
  replace W0 := Lib.hid (W0.out.new q55)
  replace GM := Lib.hid (GM.out.new q55)
  replace G2 := Lib.hid (G2.out.new q55)
  have S56 := Lib.hid q55.size
  have S57 := Lib.hid sq55
  have HB_h0 := Lib.hid bq55
  have z_h0_0 : w54.cell? ⟨w51.heap.size, 0, none⟩ = some (.int .i64 N0) := (HB_h0.out.cell _).trans rfl
  have z_h0_1 : w54.cell? ⟨w51.heap.size, 1, none⟩ = some (.slice A2 ys.length c2) := (HB_h0.out.cell _).trans rfl
  have z_h0_2 : w54.cell? ⟨w51.heap.size, 2, none⟩ = some (.int .i64 S0) := (HB_h0.out.cell _).trans rfl
  clear q55 sq55 bq55
  refine (eqSave_t _ _ N0 S0 _ _ _ _ ys _ G2.out.rd W0.out.rd (by omega)).mono ?_
  rintro e w58 ⟨rfl, hc59⟩
  replace HCH := Lib.hid (HCH.out.trans hc59)
  replace HB_in := Lib.hid (HB_in.out.chg hc59 (fun x => x))
  replace z_in_0 := Chg.cell hc59 z_in_0 (fun x => x)
  replace HB_w0 := Lib.hid (HB_w0.out.chg hc59 (fun x => x))
  replace z_w0_0 := Chg.cell hc59 z_w0_0 (fun x => x)
  replace z_w0_1 := Chg.cell hc59 z_w0_1 (fun x => x)
  replace z_w0_2 := Chg.cell hc59 z_w0_2 (fun x => x)
  replace HB_x0 := Lib.hid (HB_x0.out.chg hc59 (fun x => x))
  replace z_x0_0 := Chg.cell hc59 z_x0_0 (fun x => x)
  replace HB_g0 := Lib.hid (HB_g0.out.chg hc59 (fun x => x))
  replace z_g0_0 := Chg.cell hc59 z_g0_0 (fun x => x)
  replace z_g0_1 := Chg.cell hc59 z_g0_1 (fun x => x)
  replace z_g0_2 := Chg.cell hc59 z_g0_2 (fun x => x)
  replace HB_h0 := Lib.hid (HB_h0.out.chg hc59 (fun x => x))
  replace z_h0_0 := Chg.cell hc59 z_h0_0 (fun x => x)
  replace z_h0_1 := Chg.cell hc59 z_h0_1 (fun x => x)
  replace z_h0_2 := Chg.cell hc59 z_h0_2 (fun x => x)
  replace HX := Lib.hid (HX.out.new hc59)
  replace W0 := Lib.hid (W0.out.new hc59)
  replace GM := Lib.hid (GM.out.new hc59)
  replace G2 := Lib.hid (G2.out.new hc59)
  have S60 := Lib.hid hc59.size
  clear hc59
  go_wp2_with fail
  refine (heldSave_any _ N0 S0 _ _ ys.length 1 _ GM.out.rd (by have := HYL.out; omega) (by omega) (by omega)).mono ?_
  rintro e w61 ⟨rfl, hc62⟩
  replace HCH := Lib.hid (HCH.out.trans hc62)
  replace HB_in := Lib.hid (HB_in.out.chg hc62 (fun x => x))
  replace z_in_0 := Chg.cell hc62 z_in_0 (fun x => x)
  replace HB_w0 := Lib.hid (HB_w0.out.chg hc62 (fun x => x))
  replace z_w0_0 := Chg.cell hc62 z_w0_0 (fun x => x)
  replace z_w0_1 := Chg.cell hc62 z_w0_1 (fun x => x)
  replace z_w0_2 := Chg.cell hc62 z_w0_2 (fun x => x)
  replace HB_x0 := Lib.hid (HB_x0.out.chg hc62 (fun x => x))
  replace z_x0_0 := Chg.cell hc62 z_x0_0 (fun x => x)
  replace HB_g0 := Lib.hid (HB_g0.out.chg hc62 (fun x => x))
  replace z_g0_0 := Chg.cell hc62 z_g0_0 (fun x => x)
  replace z_g0_1 := Chg.cell hc62 z_g0_1 (fun x => x)
  replace z_g0_2 := Chg.cell hc62 z_g0_2 (fun x => x)
  replace HB_h0 := Lib.hid (HB_h0.out.chg hc62 (fun x => x))
  replace z_h0_0 := Chg.cell hc62 z_h0_0 (fun x => x)
  replace z_h0_1 := Chg.cell hc62 z_h0_1 (fun x => x)
  replace z_h0_2 := Chg.cell hc62 z_h0_2 (fun x => x)
  replace HX := Lib.hid (HX.out.new hc62)
  replace W0 := Lib.hid (W0.out.new hc62)
  replace GM := Lib.hid (GM.out.new hc62)
  replace G2 := Lib.hid (G2.out.new hc62)
  have S63 := Lib.hid hc62.size
  clear hc62
  go_wp2
  go_ret
  exact ⟨rfl, HCH.out⟩
end Go.Proofs.Ytbgepefdfioljaa
