/- The laws FnExactWearTotal, FnExactWearSpread, FnExactLastStamp, FnExactWearVictim: the walks. -/
import Derived.Test.YtenbbkmbnpdfaaaVo
import Derived.Test.YtenbbkmbnpdfaaaVm
import Derived.Test.YtenbbkmbnpdfaaaVi
import Derived.Test.YtenbbkmbnpdfaaaWv
import Derived.Test.YtenbbkmbnpdfaaaWh
import Derived.Deep.RegionHeld3
namespace Go.Proofs.Ytenbbkmbnpdfaaa
open Go.RowKit
set_option maxRecDepth 100000 in
set_option maxHeartbeats 4000000 in
theorem FnExactWearTotal_any (v : Value) (x : DevA) (w : World) (hx : DevIn w v x) :
    Calls Try.prog 4 #[v] w fun e w' => e = .returned (.bool true) ∧ Chg NoB w w' := by
  obtain ⟨A, c, D⟩ := x
  obtain ⟨rfl, h, hl, hX⟩ := hx
  simp only at h hl hX
  have HR := Lib.hid h
  clear h
  go_enter Try.func4, Try.ntmps4
  go_wp2_with fail
  refine (szBlockS_g _ A c D 1048576 _ HR.out hX hl (by omega) (by omega)).mono ?_
  rintro e w1 ⟨rfl, hc1⟩
  have HC := Lib.hid hc1
  clear hc1 hl hX
  by_cases hb : 1048576 < devSize D
  · have hs : szLeft 1048576 (devSize D) = -1 := by unfold szLeft; rw [if_pos (by omega)]
    rw [hs]
    go_wp2
    go_ret
    exact ⟨rfl, HC.out⟩
  have hs : szLeft 1048576 (devSize D) = 1048576 - (devSize D : Int) := by unfold szLeft; rw [if_neg (by omega)]
  rw [hs]
  have hnn : ¬ (1048576 - (devSize D : Int) < 0) := by omega
  have HL := Lib.hid (show D.length ≤ 1048576 by have := devSize_len D; omega)
  have HP := Lib.hid (show ∀ k (h : k < D.length), D[k].pages.length ≤ 1048576 from fun k hk => by have := devSize_page D k hk; omega)
  have HS := Lib.hid (show Small D from ⟨by have := HL.out; omega, fun k hk => by have := HP.out k hk; omega⟩)
  clear hs
  go_wp2_with fail
  refine (toBlockS_any _ A c D _ (HR.out.new HC.out) HL.out HP.out).mono ?_
  rintro e w2 ⟨g2, T2, rfl, hT2, hc2, hO2⟩
  have hr2 := hO2.reads
  rw [hT2] at hr2
  have HC2 := Lib.hid (HC.out.trans hc2)
  have HR2 := Lib.hid hr2
  clear hc2 hO2 hr2
  go_wp2_with fail
  refine (sWearTotal_any _ _ _ D _ HR2.out HS.out).mono ?_
  rintro e w3 ⟨rfl, hc3⟩
  have HC3 := Lib.hid (HC2.out.trans hc3)
  clear hc3 HR2
  go_wp2_with fail
  refine (toBlockS_any _ A c D _ (HR.out.new HC3.out) HL.out HP.out).mono ?_
  rintro e w4 ⟨g4, T4, rfl, hT4, hc4, hO4⟩
  have hr4 := hO4.reads
  rw [hT4] at hr4
  have HC4 := Lib.hid (HC3.out.trans hc4)
  have HR4 := Lib.hid hr4
  clear hc4 hO4 hr4
  go_wp2_with fail
  refine (iWearTotal_any _ _ _ D _ HR4.out).mono ?_
  rintro e w5 ⟨rfl, hc5⟩
  have HC5 := Lib.hid (HC4.out.trans hc5)
  have HR5 := Lib.hid (HR4.out.new hc5)
  have hne : (wearTotal D != wearTotal D) = false := by simp
  clear hc5
  go_wp2_with fail
  refine (toBlockS_any _ A c D _ (HR.out.new HC5.out) HL.out HP.out).mono ?_
  rintro e w6 ⟨g6, T6, rfl, hT6, hc6, hO6⟩
  have hr6 := hO6.reads
  rw [hT6] at hr6
  have HC6 := Lib.hid (HC5.out.trans hc6)
  have HR6 := Lib.hid hr6
  have HR5' := Lib.hid (HR5.out.new hc6)
  clear hc6 hO6 hr6
  go_wp2_with fail
  refine (eqBlockS_t _ _ _ _ _ _ D _ HR5'.out HR6.out HS.out).mono ?_
  rintro e w7 ⟨rfl, hc7⟩
  have HC7 := Lib.hid (HC6.out.trans hc7)
  clear hc7
  go_wp2
  go_ret
  exact ⟨rfl, HC7.out⟩
set_option maxRecDepth 100000 in
set_option maxHeartbeats 4000000 in
theorem FnExactWearSpread_any (v : Value) (x : DevA) (w : World) (hx : DevIn w v x) :
    Calls Try.prog 5 #[v] w fun e w' => e = .returned (.bool true) ∧ Chg NoB w w' := by
  obtain ⟨A, c, D⟩ := x
  obtain ⟨rfl, h, hl, hX⟩ := hx
  simp only at h hl hX
  have HR := Lib.hid h
  clear h
  go_enter Try.func5, Try.ntmps5
  go_wp2_with fail
  refine (szBlockS_g _ A c D 1048576 _ HR.out hX hl (by omega) (by omega)).mono ?_
  rintro e w1 ⟨rfl, hc1⟩
  have HC := Lib.hid hc1
  clear hc1 hl hX
  by_cases hb : 1048576 < devSize D
  · have hs : szLeft 1048576 (devSize D) = -1 := by unfold szLeft; rw [if_pos (by omega)]
    rw [hs]
    go_wp2
    go_ret
    exact ⟨rfl, HC.out⟩
  have hs : szLeft 1048576 (devSize D) = 1048576 - (devSize D : Int) := by unfold szLeft; rw [if_neg (by omega)]
  rw [hs]
  have hnn : ¬ (1048576 - (devSize D : Int) < 0) := by omega
  have HL := Lib.hid (show D.length ≤ 1048576 by have := devSize_len D; omega)
  have HP := Lib.hid (show ∀ k (h : k < D.length), D[k].pages.length ≤ 1048576 from fun k hk => by have := devSize_page D k hk; omega)
  have HS := Lib.hid (show Small D from ⟨by have := HL.out; omega, fun k hk => by have := HP.out k hk; omega⟩)
  clear hs
  go_wp2_with fail
  refine (toBlockS_any _ A c D _ (HR.out.new HC.out) HL.out HP.out).mono ?_
  rintro e w2 ⟨g2, T2, rfl, hT2, hc2, hO2⟩
  have hr2 := hO2.reads
  rw [hT2] at hr2
  have HC2 := Lib.hid (HC.out.trans hc2)
  have HR2 := Lib.hid hr2
  clear hc2 hO2 hr2
  go_wp2_with fail
  refine (sWearSpread_any _ _ _ D _ HR2.out HS.out).mono ?_
  rintro e w3 ⟨rfl, hc3⟩
  have HC3 := Lib.hid (HC2.out.trans hc3)
  clear hc3 HR2
  go_wp2_with fail
  refine (toBlockS_any _ A c D _ (HR.out.new HC3.out) HL.out HP.out).mono ?_
  rintro e w4 ⟨g4, T4, rfl, hT4, hc4, hO4⟩
  have hr4 := hO4.reads
  rw [hT4] at hr4
  have HC4 := Lib.hid (HC3.out.trans hc4)
  have HR4 := Lib.hid hr4
  clear hc4 hO4 hr4
  go_wp2_with fail
  refine (iWearSpread_any _ _ _ D _ HR4.out).mono ?_
  rintro e w5 ⟨rfl, hc5⟩
  have HC5 := Lib.hid (HC4.out.trans hc5)
  have HR5 := Lib.hid (HR4.out.new hc5)
  have hne : (wearSpread D != wearSpread D) = false := by simp
  clear hc5
  go_wp2_with fail
  refine (toBlockS_any _ A c D _ (HR.out.new HC5.out) HL.out HP.out).mono ?_
  rintro e w6 ⟨g6, T6, rfl, hT6, hc6, hO6⟩
  have hr6 := hO6.reads
  rw [hT6] at hr6
  have HC6 := Lib.hid (HC5.out.trans hc6)
  have HR6 := Lib.hid hr6
  have HR5' := Lib.hid (HR5.out.new hc6)
  clear hc6 hO6 hr6
  go_wp2_with fail
  refine (eqBlockS_t _ _ _ _ _ _ D _ HR5'.out HR6.out HS.out).mono ?_
  rintro e w7 ⟨rfl, hc7⟩
  have HC7 := Lib.hid (HC6.out.trans hc7)
  clear hc7
  go_wp2
  go_ret
  exact ⟨rfl, HC7.out⟩
set_option maxRecDepth 100000 in
set_option maxHeartbeats 4000000 in
theorem FnExactLastStamp_any (v : Value) (x : DevA) (w : World) (hx : DevIn w v x) :
    Calls Try.prog 6 #[v] w fun e w' => e = .returned (.bool true) ∧ Chg NoB w w' := by
  obtain ⟨A, c, D⟩ := x
  obtain ⟨rfl, h, hl, hX⟩ := hx
  simp only at h hl hX
  have HR := Lib.hid h
  clear h
  go_enter Try.func6, Try.ntmps6
  go_wp2_with fail
  refine (szBlockS_g _ A c D 1048576 _ HR.out hX hl (by omega) (by omega)).mono ?_
  rintro e w1 ⟨rfl, hc1⟩
  have HC := Lib.hid hc1
  clear hc1 hl hX
  by_cases hb : 1048576 < devSize D
  · have hs : szLeft 1048576 (devSize D) = -1 := by unfold szLeft; rw [if_pos (by omega)]
    rw [hs]
    go_wp2
    go_ret
    exact ⟨rfl, HC.out⟩
  have hs : szLeft 1048576 (devSize D) = 1048576 - (devSize D : Int) := by unfold szLeft; rw [if_neg (by omega)]
  rw [hs]
  have hnn : ¬ (1048576 - (devSize D : Int) < 0) := by omega
  have HL := Lib.hid (show D.length ≤ 1048576 by have := devSize_len D; omega)
  have HP := Lib.hid (show ∀ k (h : k < D.length), D[k].pages.length ≤ 1048576 from fun k hk => by have := devSize_page D k hk; omega)
  have HS := Lib.hid (show Small D from ⟨by have := HL.out; omega, fun k hk => by have := HP.out k hk; omega⟩)
  clear hs
  go_wp2_with fail
  refine (toBlockS_any _ A c D _ (HR.out.new HC.out) HL.out HP.out).mono ?_
  rintro e w2 ⟨g2, T2, rfl, hT2, hc2, hO2⟩
  have hr2 := hO2.reads
  rw [hT2] at hr2
  have HC2 := Lib.hid (HC.out.trans hc2)
  have HR2 := Lib.hid hr2
  clear hc2 hO2 hr2
  go_wp2_with fail
  refine (sLastStamp_any _ _ _ D _ HR2.out HS.out).mono ?_
  rintro e w3 ⟨rfl, hc3⟩
  have HC3 := Lib.hid (HC2.out.trans hc3)
  clear hc3 HR2
  go_wp2_with fail
  refine (toBlockS_any _ A c D _ (HR.out.new HC3.out) HL.out HP.out).mono ?_
  rintro e w4 ⟨g4, T4, rfl, hT4, hc4, hO4⟩
  have hr4 := hO4.reads
  rw [hT4] at hr4
  have HC4 := Lib.hid (HC3.out.trans hc4)
  have HR4 := Lib.hid hr4
  clear hc4 hO4 hr4
  go_wp2_with fail
  refine (iLastStamp_any _ _ _ D _ HR4.out).mono ?_
  rintro e w5 ⟨rfl, hc5⟩
  have HC5 := Lib.hid (HC4.out.trans hc5)
  have HR5 := Lib.hid (HR4.out.new hc5)
  have hne : (lastStamp D != lastStamp D) = false := by simp
  clear hc5
  go_wp2_with fail
  refine (toBlockS_any _ A c D _ (HR.out.new HC5.out) HL.out HP.out).mono ?_
  rintro e w6 ⟨g6, T6, rfl, hT6, hc6, hO6⟩
  have hr6 := hO6.reads
  rw [hT6] at hr6
  have HC6 := Lib.hid (HC5.out.trans hc6)
  have HR6 := Lib.hid hr6
  have HR5' := Lib.hid (HR5.out.new hc6)
  clear hc6 hO6 hr6
  go_wp2_with fail
  refine (eqBlockS_t _ _ _ _ _ _ D _ HR5'.out HR6.out HS.out).mono ?_
  rintro e w7 ⟨rfl, hc7⟩
  have HC7 := Lib.hid (HC6.out.trans hc7)
  clear hc7
  go_wp2
  go_ret
  exact ⟨rfl, HC7.out⟩
set_option maxRecDepth 100000 in
set_option maxHeartbeats 4000000 in
theorem FnExactWearVictim_any (v : Value) (x : DevA) (u : Value) (y : Int × Int × Int) (w0 : World) (hx : DevIn w0 v x) (hy : HdIn u y) :
    Calls Try.prog 7 #[v, u] w0 fun e w' => e = .returned (.bool true) ∧ Chg NoB w0 w' := by
  obtain ⟨a, b, d⟩ := y
  obtain rfl := hy
  simp only
  have hca := (Chg.refl NoB w0).alloc (.cells #[.int .i64 a, .int .i64 b, .int .i64 d] 36)
  have HBX := Lib.hid (Blk.new w0 36 #[.int .i64 a, .int .i64 b, .int .i64 d])
  have HC0 := Lib.hid hca
  clear hca
  obtain ⟨A, c, D⟩ := x
  obtain ⟨rfl, h, hl, hX⟩ := hx
  simp only at h hl hX
  have HR := Lib.hid h
  clear h
  go_enter Try.func7, Try.ntmps7
  go_wp2_with fail
  refine (szBlockS_g _ A c D 1048576 _ (HR.out.new HC0.out) hX hl (by omega) (by omega)).mono ?_
  rintro e w1 ⟨rfl, hc1⟩
  have HC := Lib.hid (HC0.out.trans hc1)
  have hbx := HBX.out.chg hc1 (fun x => x)
  have x0 : w1.cell? ⟨w0.heap.size, 0, none⟩ = some (.int .i64 a) := (hbx.cell _).trans rfl
  have x1 : w1.cell? ⟨w0.heap.size, 1, none⟩ = some (.int .i64 b) := (hbx.cell _).trans rfl
  have x2 : w1.cell? ⟨w0.heap.size, 2, none⟩ = some (.int .i64 d) := (hbx.cell _).trans rfl
  have HB1 := Lib.hid hbx
  clear hc1 hl hX hbx
  by_cases hb : 1048576 < devSize D
  · have hs : szLeft 1048576 (devSize D) = -1 := by unfold szLeft; rw [if_pos (by omega)]
    rw [hs]
    go_wp2
    go_ret
    exact ⟨rfl, HC.out⟩
  have hs : szLeft 1048576 (devSize D) = 1048576 - (devSize D : Int) := by unfold szLeft; rw [if_neg (by omega)]
  rw [hs]
  have hnn : ¬ (1048576 - (devSize D : Int) < 0) := by omega
  have HL := Lib.hid (show D.length ≤ 1048576 by have := devSize_len D; omega)
  have HP := Lib.hid (show ∀ k (h : k < D.length), D[k].pages.length ≤ 1048576 from fun k hk => by have := devSize_page D k hk; omega)
  have HS := Lib.hid (show Small D from ⟨by have := HL.out; omega, fun k hk => by have := HP.out k hk; omega⟩)
  clear hs
  have HRX := Lib.hid (show ∀ W, Chg NoB w0 W → DevR (fun i => i < w0.heap.size) W A D from fun W hW => HR.out.new hW)
  clear hb
  go_wp2_with fail
  go_region_held3 (fun w' => w'.cell? ⟨w0.heap.size, 0, none⟩ = some (.int .i64 a) ∧ w'.cell? ⟨w0.heap.size, 1, none⟩ = some (.int .i64 b) ∧ w'.cell? ⟨w0.heap.size, 2, none⟩ = some (.int .i64 d))
    (first | go_keep | (refine ⟨?_, ?_, ?_⟩ <;> exact ((HB1.out.chg (F := NoB) (by first | exact (Chg.refl NoB w1).drew.trans hcc | exact ((Chg.refl NoB w1).drew.trans HKb.out).trans hcc | exact (((Chg.refl NoB w1).drew.trans HKb.out).trans HKh.out).trans hcc) (fun x => x)).cell _).trans rfl))
    (first
      | (go_at_call 25; refine (toBlockS_any _ A c D _ (HRX.out _ (by first | exact HC.out.drew | exact HC.out.drew.trans HKh.out)) HL.out HP.out).mono ?_; rintro e' wt ⟨g2, T2, rfl, hT2, hcc, hO2⟩; have HKb := Lib.hid hcc; have HR2 := Lib.hid (show DevR _ wt _ D from hT2 ▸ hO2.reads))
      | (go_at_call 32; refine (toHeads_any a b d _).mono ?_; rintro e' wh ⟨rfl, hcc⟩; have HKh := Lib.hid hcc)
      | (go_at_call 31; refine (sWearVictim_any _ _ _ D ⟨a, b, d⟩ _ (by first | exact HR2.out | exact HR2.out.new HKh.out) HS.out).mono ?_; rintro e' wv ⟨rfl, hcc⟩; have HKv := Lib.hid hcc))
  all_goals
    have HC3 := Lib.hid (show Chg NoB w0 wv from by first | exact ((HC.out.drew.trans HKb.out).trans HKh.out).trans HKv.out | exact ((HC.out.drew.trans HKh.out).trans HKb.out).trans HKv.out)
    have HB3 := Lib.hid (show Blk wv w0.heap.size _ _ from HB1.out.chg (F := NoB) (by first | exact ((Chg.refl NoB w1).drew.trans HKb.out).trans (HKh.out.trans HKv.out) | exact ((Chg.refl NoB w1).drew.trans HKh.out).trans (HKb.out.trans HKv.out)) (fun x => x))
    clear hcc
    (try clear hT2 hO2)
    go_wp2_with fail
    refine (toBlockS_any _ A c D _ (HRX.out _ HC3.out) HL.out HP.out).mono ?_
    rintro e w4 ⟨g4, T4, rfl, hT4, hc4, hO4⟩
    have hr4 := hO4.reads
    rw [hT4] at hr4
    have HC4 := Lib.hid (HC3.out.trans hc4)
    have HR4 := Lib.hid hr4
    have HB4 := Lib.hid (HB3.out.chg hc4 (fun x => x))
    have hb4 := HB4.out
    have y0 : w4.cell? ⟨w0.heap.size, 0, none⟩ = some (.int .i64 a) := (hb4.cell _).trans rfl
    have y1 : w4.cell? ⟨w0.heap.size, 1, none⟩ = some (.int .i64 b) := (hb4.cell _).trans rfl
    have y2 : w4.cell? ⟨w0.heap.size, 2, none⟩ = some (.int .i64 d) := (hb4.cell _).trans rfl
    clear hc4 hO4 hr4 hb4 hT4
    go_wp2_with fail
    refine (toHeads_any a b d _).mono ?_
    rintro e w5 ⟨rfl, hc5⟩
    have HC5 := Lib.hid (HC4.out.trans hc5)
    have HR5 := Lib.hid (HR4.out.new hc5)
    clear hc5 y0 y1 y2
    go_wp2_with fail
    refine (iWearVictim_any _ _ _ D ⟨a, b, d⟩ _ HR5.out).mono ?_
    rintro e w6 ⟨rfl, hc6⟩
    have HC6 := Lib.hid (HC5.out.trans hc6)
    have HR6 := Lib.hid (HR5.out.new hc6)
    have hne : (wearVictim D ⟨a, b, d⟩ != wearVictim D ⟨a, b, d⟩) = false := by simp
    clear hc6
    go_wp2_with fail
    refine (toBlockS_any _ A c D _ (HRX.out _ HC6.out) HL.out HP.out).mono ?_
    rintro e w7 ⟨g7, T7, rfl, hT7, hc7, hO7⟩
    have hr7 := hO7.reads
    rw [hT7] at hr7
    have HC7 := Lib.hid (HC6.out.trans hc7)
    have HR7 := Lib.hid hr7
    have HR6' := Lib.hid (HR6.out.new hc7)
    clear hc7 hO7 hr7 hT7
    go_wp2_with fail
    refine (eqBlockS_t _ _ _ _ _ _ D _ HR6'.out HR7.out HS.out).mono ?_
    rintro e w8 ⟨rfl, hc8⟩
    have HC8 := Lib.hid (HC7.out.trans hc8)
    clear hc8
    go_wp2
    go_ret
    exact ⟨rfl, HC8.out⟩
end Go.Proofs.Ytenbbkmbnpdfaaa
