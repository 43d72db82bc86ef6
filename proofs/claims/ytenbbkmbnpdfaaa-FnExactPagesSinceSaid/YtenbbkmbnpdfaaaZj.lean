/- The law FnExactPagesSince: the walk. -/
import Derived.Test.YtenbbkmbnpdfaaaZh
import Derived.Test.YtenbbkmbnpdfaaaZi
import Derived.Test.YtenbbkmbnpdfaaaVo
import Derived.Test.YtenbbkmbnpdfaaaIm
import Derived.Test.YtenbbkmbnpdfaaaWv
namespace Go.Proofs.Ytenbbkmbnpdfaaa
open Go.RowKit
theorem endT_size (T : List BkO) : ∀ k, endT T k ≤ k + 5 * (devSize (bksOf T) : Int) := by
  induction T with
  | nil => intro k; simp [endT, devSize, bksOf]
  | cons r T ih =>
    intro k
    have := ih (k + 1 + 5 * (r.ps.length : Int))
    unfold endT
    have e : devSize (bksOf (r :: T)) = devSize (bksOf T) + 1 + r.ps.length := by
      unfold devSize bksOf
      simp [BkO.bk]
      omega
    rw [e]
    omega
abbrev toI (L : List Nat) : List Int := L.map fun (n : Nat) => (n : Int)
theorem toI_len (L : List Nat) : (toI L).length = L.length := by simp
set_option maxRecDepth 100000 in
set_option maxHeartbeats 8000000 in
theorem FnExactPagesSince_any (v : Value) (x : DevA) (s : Int) (w : World) (hx : DevIn w v x) :
    Calls Try.prog 12 #[v, .int .i64 s] w fun e w' => e = .returned (.bool true) ∧ Chg NoB w w' := by
  obtain ⟨A, c, D⟩ := x
  obtain ⟨rfl, h, hl, hX⟩ := hx
  simp only at h hl hX
  have HR := Lib.hid h
  clear h
  go_enter Try.func12, Try.ntmps12
  go_wp2_with fail
  refine (szBlockS_g _ A c D 1048576 _ HR.out hX hl (by omega) (by omega)).mono ?_
  rintro e w1 ⟨rfl, hc1⟩
  have HC := Lib.hid hc1
  clear hc1 hl hX
  by_cases hb : 1048576 < devSize D
  · have hs : szLeft 1048576 (devSize D) = -1 := by unfold szLeft; rw [if_pos (by omega)]
    rw [hs]
    go_wp2
    go_ret
    exact ⟨rfl, HC.out⟩
  have hs : szLeft 1048576 (devSize D) = 1048576 - (devSize D : Int) := by unfold szLeft; rw [if_neg (by omega)]
  rw [hs]
  have hnn : ¬ (1048576 - (devSize D : Int) < 0) := by omega
  have HL := Lib.hid (show D.length ≤ 1048576 by have := devSize_len D; omega)
  have HP := Lib.hid (show ∀ k (h : k < D.length), D[k].pages.length ≤ 1048576 from fun k hk => by have := devSize_page D k hk; omega)
  have HS := Lib.hid (show Small D from ⟨by have := HL.out; omega, fun k hk => by have := HP.out k hk; omega⟩)
  have HSZ := Lib.hid (show devSize D ≤ 1048576 by omega)
  clear hs hb
  go_wp2_with fail
  refine (toBlockS_any _ A c D _ (HR.out.new HC.out) HL.out HP.out).mono ?_
  rintro e w2 ⟨g2, T2, rfl, hT2, hc2, hO2⟩
  have hr2 := hO2.reads
  rw [hT2] at hr2
  have HC2 := Lib.hid (HC.out.trans hc2)
  have HR2 := Lib.hid hr2
  clear hc2 hO2 hr2 hT2
  go_wp2_with fail
  refine (sPagesSince_any _ _ _ D s _ HR2.out HS.out HL.out).mono ?_
  rintro e w3 ⟨A3, c3, rfl, ho3, hc3⟩
  obtain ⟨L, hLe⟩ : ∃ L, pagesSince D s = L := ⟨_, rfl⟩
  have HLE := Lib.hid hLe
  have HLL := Lib.hid (show L.length ≤ 48 by rw [← hLe]; exact pagesSince_len D s)
  rw [hLe] at ho3 ⊢
  have HC3 := Lib.hid (HC2.out.trans hc3)
  have HO3 := Lib.hid ho3
  clear hc3 HR2 ho3 hLe
  go_wp2_with fail
  refine (toBlockS_any _ A c D _ (HR.out.new HC3.out) HL.out HP.out).mono ?_
  rintro e w4 ⟨g4, T4, rfl, hT4, hc4, hO4⟩
  have hr4 := hO4.reads
  rw [hT4] at hr4
  have HC4 := Lib.hid (HC3.out.trans hc4)
  have HR4 := Lib.hid hr4
  have HD4 := Lib.hid hO4
  have HT4 := Lib.hid hT4
  have HO34 := Lib.hid (HO3.out.new hc4)
  have HS34 := Lib.hid hc4.size
  clear hc4 hO4 hr4 hT4
  go_wp2_with fail
  refine (iPagesSince_any _ _ _ D s _ HR4.out).mono ?_
  rintro e w5 ⟨A5, c5, rfl, ho5, hc5⟩
  rw [HLE.out] at ho5 ⊢
  have HC5 := Lib.hid (HC4.out.trans hc5)
  have HR5 := Lib.hid (HR4.out.new hc5)
  have HD5 := Lib.hid (HD4.out.new hc5)
  have HO35 := Lib.hid (HO34.out.new hc5)
  have HO5 := Lib.hid ho5
  have HS45 := Lib.hid hc5.size
  clear hc5 ho5
  have HE := Lib.hid (show ∀ (F G : Nat → Prop) (B1 B2 : Option Addr) (d1 d2 : Nat) (wq : World), Rd F wq B1 (rowc L) → Rd G wq B2 (rowc L) → Calls Try.prog 44 #[.slice B1 L.length d1, .slice B2 L.length d2] wq fun e w' => e = .returned (.bool true) ∧ Chg NoB wq w' from fun F G B1 B2 d1 d2 wq h1 h2 => by
    rw [rowc_icells] at h1 h2
    have := eqIntS_t F G B1 B2 d1 d2 (toI L) wq h1 h2 (by rw [toI_len]; have := HLL.out; omega)
    rw [toI_len] at this
    refine this.mono ?_
    rintro e w' ⟨rfl, m, hw⟩
    exact ⟨rfl, by rw [hw]; exact (Chg.refl _ _).drewN _⟩)
  go_wp2_with fail
  refine (HE.out _ _ _ _ _ _ _ HO5.out.rd HO35.out.rd).mono ?_
  rintro e w6 ⟨rfl, hc6⟩
  have HC6 := Lib.hid (HC5.out.trans hc6)
  have HR6 := Lib.hid (HR5.out.new hc6)
  have HD6 := Lib.hid (HD5.out.new hc6)
  have HO36 := Lib.hid (HO35.out.new hc6)
  have HO56 := Lib.hid (HO5.out.new hc6)
  clear hc6 HR5 HD5 HO35
  go_wp2_with fail
  refine (toBlockS_any _ A c D _ (HR.out.new HC6.out) HL.out HP.out).mono ?_
  rintro e w7 ⟨g7, T7, rfl, hT7, hc7, hO7⟩
  have hr7 := hO7.reads
  rw [hT7] at hr7
  have HC7 := Lib.hid (HC6.out.trans hc7)
  have HR7 := Lib.hid hr7
  have HR67 := Lib.hid (HR6.out.new hc7)
  have HD7 := Lib.hid (HD6.out.new hc7)
  have HO37 := Lib.hid (HO36.out.new hc7)
  have HO57 := Lib.hid (HO56.out.new hc7)
  clear hc7 hO7 hr7 hT7 HR6 HD6 HO36 HO56
  go_wp2_with fail
  refine (eqBlockS_t _ _ _ _ _ _ D _ HR67.out HR7.out HS.out).mono ?_
  rintro e w8 ⟨rfl, hc8⟩
  have HC8 := Lib.hid (HC7.out.trans hc8)
  have HD8 := Lib.hid (HD7.out.new hc8)
  have HO38 := Lib.hid (HO37.out.new hc8)
  have HO58 := Lib.hid (HO57.out.new hc8)
  clear hc8 HR67 HR7 HD7 HO37 HO57
  have HTL := Lib.hid (show T4.length = D.length by rw [← HT4.out, bksOf_length])
  have HMK := Lib.hid (show Calls Try.prog 45 #[.slice (some ⟨g4, 0, none⟩) D.length D.length, .int .i64 1] w8 fun e w' => e = .returned (.int .i64 (endT T4 1)) ∧ Chg (fun i => w3.heap.size ≤ i ∧ i < w4.heap.size) w8 w' from by
    have h1 := markBlockS_any w3.heap.size w4.heap.size (some ⟨g4, 0, none⟩) D.length T4 1 w8 HD8.out (fun r hr => by
      obtain ⟨j, hj, rfl⟩ := List.getElem_of_mem hr
      have hj' : j < D.length := by rw [← HTL.out]; exact hj
      have hp := HP.out j hj'
      have e : D[j] = T4[j].bk := by
        have : D[j]? = some T4[j].bk := by rw [← HT4.out]; unfold bksOf; rw [List.getElem?_map, List.getElem?_eq_getElem hj]; rfl
        exact (List.getElem?_eq_some_iff.1 this).2
      rw [e] at hp
      exact hp) (by rw [HTL.out]; exact HL.out) (by omega) (by have := endT_size T4 1; rw [HT4.out] at this; have := HSZ.out; omega)
    rw [HTL.out] at h1
    exact h1.mono fun e w' ⟨a, b, _⟩ => ⟨a, b⟩)
  go_wp2_with fail
  refine HMK.out.mono ?_
  rintro e w9 ⟨rfl, hc9⟩
  have hk0 : ¬ (endT T4 1 < 0) := by have := endT_le T4 1; omega
  have HC9 := Lib.hid (HC8.out.trans' hc9 (fun i hi => .inr (by have := HC3.out.size; omega)))
  have HO39 := Lib.hid (HO38.out.chg hc9 (fun i h1 h2 h3 => by omega))
  have HO59 := Lib.hid (HO58.out.chg hc9 (fun i h1 h2 h3 => by omega))
  clear hc9 HMK HD8
  go_wp2_with fail
  refine (HE.out _ _ _ _ _ _ _ HO59.out.rd HO39.out.rd).mono ?_
  rintro e w10 ⟨rfl, hc10⟩
  have HC10 := Lib.hid (HC9.out.trans hc10)
  have HO310 := Lib.hid (HO39.out.new hc10)
  have HO510 := Lib.hid (HO59.out.new hc10)
  clear hc10 HO39 HO59
  have HMI := Lib.hid (show Calls Try.prog 46 #[.slice A5 L.length c5, .int .i64 1] w10 fun e w' => e = .returned (.int .i64 (1 + (L.length : Int))) ∧ Chg (fun i => w4.heap.size ≤ i ∧ i < w5.heap.size) w10 w' ∧ OwnS w4.heap.size w5.heap.size w' 3 A5 L.length c5 (icells (marksI L.length 1)) from by
    have h0 := HO510.out
    rw [rowc_icells] at h0
    have h1 := markIntS_any w4.heap.size w5.heap.size A5 c5 (toI L) 1 w10 (by rw [toI_len]; exact h0) (by rw [toI_len]; have := HLL.out; omega) (by omega) (by omega)
    rw [toI_len] at h1
    exact h1)
  go_wp2_with fail
  refine HMI.out.mono ?_
  rintro e w11 ⟨rfl, hc11, ho11⟩
  have HC11 := Lib.hid (HC10.out.trans' hc11 (fun i hi => .inr (by have := HC4.out.size; omega)))
  have HO311 := Lib.hid (HO310.out.chg hc11 (fun i h1 h2 h3 => by have := HS34.out; omega))
  have HO511 := Lib.hid ho11
  clear hc11 ho11 HMI
  have hq0 : ¬ (1 + (L.length : Int) < 0) := by omega
  go_wp2_with fail
  refine (heldIntS_any _ _ _ L.length 1 _ HO511.out.rd (by have := HLL.out; omega) (by omega) (by omega)).mono ?_
  rintro e w' ⟨rfl, rfl⟩
  have hne : ((1 + (L.length : Int)) != (1 + (L.length : Int))) = false := by simp
  go_wp2_with fail
  refine (toBlockS_any _ A c D _ (HR.out.new HC11.out) HL.out HP.out).mono ?_
  rintro e w12 ⟨g12, T12, rfl, hT12, hc12, hO12⟩
  have hr12 := hO12.reads
  rw [hT12] at hr12
  have HC12 := Lib.hid (HC11.out.trans hc12)
  have HR12 := Lib.hid hr12
  have HO312 := Lib.hid (HO311.out.new hc12)
  have HO512 := Lib.hid (HO511.out.new hc12)
  clear hc12 hO12 hr12 hT12
  go_wp2_with fail
  refine (iPagesSince_any _ _ _ D s _ HR12.out).mono ?_
  rintro e w13 ⟨A13, c13, rfl, ho13, hc13⟩
  rw [HLE.out] at ho13 ⊢
  have HC13 := Lib.hid (HC12.out.trans hc13)
  have HO313 := Lib.hid (HO312.out.new hc13)
  have HO513 := Lib.hid (HO512.out.new hc13)
  have HO13 := Lib.hid ho13
  clear hc13 ho13
  go_wp2_with fail
  refine (HE.out _ _ _ _ _ _ _ HO13.out.rd HO313.out.rd).mono ?_
  rintro e w14 ⟨rfl, hc14⟩
  have HC14 := Lib.hid (HC13.out.trans hc14)
  have HO514 := Lib.hid (HO513.out.new hc14)
  clear hc14
  go_wp2_with fail
  refine (heldIntS_any _ _ _ L.length 1 _ HO514.out.rd (by have := HLL.out; omega) (by omega) (by omega)).mono ?_
  rintro e w' ⟨rfl, rfl⟩
  go_wp2
  go_ret
  exact ⟨rfl, HC14.out⟩
end Go.Proofs.Ytenbbkmbnpdfaaa
