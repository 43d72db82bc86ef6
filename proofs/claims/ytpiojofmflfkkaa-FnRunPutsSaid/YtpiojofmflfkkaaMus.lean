/- Parts of the proof, merged: Us. -/
import Derived.Test.YtpiojofmflfkkaaMuq
import Derived.Test.YtpiojofmflfkkaaMur
import Derived.Test.YtpiojofmflfkkaaMs
import Derived.Test.YtpiojofmflfkkaaMuv
import Derived.Test.YtpiojofmflfkkaaMuy
import Derived.Test.YtpiojofmflfkkaaMb
/- The law FnRunPuts: the walk. -/
namespace Go.Proofs.Ytpiojofmflfkkaa
open Go.RowKit
theorem rd_putsTake {F : Nat → Prop} {w : World} {A : Option Addr} {xs : List Pt} (h : Rd F w A (putcells xs)) (k : Nat) : Rd F w A (putcells (xs.take k)) := by
  have e : putcells xs = putcells (xs.take k) ++ putcells (xs.drop k) := by
    unfold putcells
    rw [← List.flatMap_append, List.take_append_drop]
  intro j u hj
  refine h j u ?_
  rw [e]
  obtain ⟨hlt, -⟩ := List.getElem?_eq_some_iff.1 hj
  rw [List.getElem?_append_left hlt]
  exact hj
theorem runPuts_small (n : Int) (xs : List Pt) : Small (runPuts n xs).1 := by
  by_cases hk : runOk n xs
  · obtain ⟨h', m, -, -, hr, -⟩ := runPuts_yes hk
    exact ⟨by have := hr.ok.1.1.2; omega, fun k hk => by have := (hr.ok.1.2 k hk).2.1; omega⟩
  · rw [runPuts_not hk]
    exact ⟨by simp, fun k hk => by simp at hk⟩
set_option maxRecDepth 100000 in
set_option maxHeartbeats 1000000 in
theorem FnRunPuts_any (A : Option Addr) (c : Nat) (bs : List Nat) (w : World) (h : Rd (fun i => i < w.heap.size) w A (bs.map fun (b : Nat) => Value.int .u8 (b : Int))) (hx : ∀ b ∈ bs, b < 256) (hc : bs.length ≤ c) (_hm : c ≤ maxLen) :
    Calls Try.prog 7 #[.slice A bs.length c] w fun e w' => e = .returned (.bool true) ∧ Chg NoB w w' := by
  by_cases hl : 1048576 < bs.length
  · go_enter Try.func7, Try.ntmps7
    go_wp2
    go_ret
    exact ⟨rfl, Chg.refl _ _⟩
  have hl' : bs.length ≤ 1048576 := by omega
  go_enter Try.func7, Try.ntmps7
  go_wp2_with fail
  refine (DrawRunPuts_any A c bs w h hx hc).mono ?_
  rintro e w1 ⟨n, ad, cx, xs, rfl, hX, hXc, h21, hc1⟩
  have HSM := Lib.hid (runPuts_small n xs)
  obtain ⟨⟨D, r⟩, hR⟩ : ∃ q, runPuts n xs = q := ⟨_, rfl⟩
  rw [hR] at HSM
  have HRE := Lib.hid hR
  have HXL := Lib.hid (And.intro hXc h21)
  have hrr : (r != r) = false := by simp
  clear h hx hc hl hR hXc
  have HCH := Lib.hid hc1
  have HX := Lib.hid hX
  clear hX hc1
  go_wp2_with fail
  refine (iRunPuts_any _ _ _ n xs _ HX.out).mono ?_
  rintro e w11 ⟨Ai, ci, Ti, rfl, hTi, hOi, hc12⟩
  replace HCH := Lib.hid (HCH.out.trans hc12)
  replace HX := Lib.hid (HX.out.new hc12)
  have S13 := Lib.hid hc12.size
  rw [HRE.out] at hTi ⊢
  have hRi := hOi.reads
  rw [hTi] at hRi
  have Ri := Lib.hid hRi
  clear hRi hOi hTi hc12
  go_wp2_with fail
  refine (sRunPuts_any _ _ _ n xs _ HX.out (by have := HXL.out.2; omega)).mono ?_
  rintro e w14 ⟨As, cs, Ts, rfl, hTs, hOs, hc15⟩
  replace HCH := Lib.hid (HCH.out.trans hc15)
  replace HX := Lib.hid (HX.out.new hc15)
  replace Ri := Lib.hid (Ri.out.new hc15)
  have S16 := Lib.hid hc15.size
  rw [HRE.out] at hTs ⊢
  have hRs := hOs.reads
  rw [hTs] at hRs
  have Rs := Lib.hid hRs
  clear hRs hOs hTs hc15
  go_wp2_with fail
  refine (sameDevice_t _ _ _ _ _ _ D _ Ri.out Rs.out HSM.out).mono ?_
  rintro e w17 ⟨rfl, hc18⟩
  replace HCH := Lib.hid (HCH.out.trans hc18)
  replace HX := Lib.hid (HX.out.new hc18)
  replace Ri := Lib.hid (Ri.out.new hc18)
  replace Rs := Lib.hid (Rs.out.new hc18)
  have S19 := Lib.hid hc18.size
  clear hc18
  clear Rs
  by_cases hok : runOk n xs
  case neg =>
    have hq := HRE.out
    rw [runPuts_not hok] at hq
    obtain ⟨rfl, rfl⟩ : [] = D ∧ -1 = r := by injection hq with a b; exact ⟨a, b⟩
    clear hq hok
    go_wp2_with fail
    refine (alive_any _).mono ?_
    rintro e w' ⟨rfl, rfl⟩
    go_wp2
    go_ret
    exact ⟨rfl, HCH.out⟩
  have HOK := Lib.hid hok
  obtain ⟨h0, m, hm, hml, hrs, hfr⟩ := runPuts_yes hok
  rw [HRE.out] at hm hrs hfr
  have HRS := Lib.hid hrs
  have HFR := Lib.hid hfr
  have HDV := Lib.hid (show DvOk D from hrs.ok.1)
  obtain rfl : r = (m : Int) := hm
  have HM := Lib.hid (show (runPuts n xs).2 = (m : Int) by rw [HRE.out])
  clear hok hrs hfr
  have hm0 : ¬ ((m : Int) < 0) := by omega
  have hm1 : ¬ ((xs.length : Int) < (m : Int)) := by omega
  go_wp2_with fail
  obtain ⟨wl, hwl⟩ : ∃ wl, w17.alloc (.cells #[.int .i64 (m : Int), .int .i64 ((m : Int) / 2)] 3) = wl := ⟨_, rfl⟩
  try rw [hwl]
  have hca : Chg NoB w17 wl := by rw [← hwl]; exact (Chg.refl _ _).alloc _
  have hbl : Blk wl w17.heap.size 3 #[.int .i64 (m : Int), .int .i64 ((m : Int) / 2)] := by rw [← hwl]; exact Blk.new _ _ _
  obtain ⟨V, hV⟩ : ∃ V, w17.heap.size = V := ⟨_, rfl⟩
  rw [hV] at hbl ⊢
  replace HCH := Lib.hid (HCH.out.trans hca)
  replace HX := Lib.hid (HX.out.new hca)
  replace Ri := Lib.hid (Ri.out.new hca)
  have HCELL : ∀ wr, Chg NoB wl wr → ∀ k : Nat, k < 2 → ∃ cut : Nat, cut ≤ m ∧ wr.cell? ⟨V, k, none⟩ = some (.int .i64 (cut : Int)) := by
    intro wr hcr k hk
    have hb := hbl.chg hcr (fun x => x)
    rcases (show k = 0 ∨ k = 1 by omega) with rfl | rfl
    · exact ⟨m, Nat.le_refl _, (hb.cell _).trans rfl⟩
    · exact ⟨m / 2, by omega, (hb.cell _).trans (by rw [Int.natCast_ediv]; rfl)⟩
  have HCE := Lib.hid HCELL
  clear hca hbl hwl hV HCELL S13 S16 S19
  go_loopw [71] (fun i wr => ∃ k : Nat, k ≤ 2 ∧ i = .int .i64 k ∧ Chg NoB wl wr) (fun i _ => 2 - (intOf i).toNat)
  case atStart => exact ⟨0, Nat.zero_le _, rfl, Chg.refl _ _⟩
  case round =>
    obtain ⟨k, hk2, rfl, hcr⟩ := hrel
    have HCR := Lib.hid hcr
    by_cases hk : k < 2
    case neg =>
      have hk' : ¬ ((k : Int) < 2) := by omega
      have HRR := Lib.hid (Ri.out.new hcr)
      clear hcr
      go_wp2_with fail
      refine (iDeviceValid_t _ Ai ci D _ HRR.out HDV.out).mono ?_
      rintro e wk ⟨rfl, hck⟩
      have HCK := Lib.hid (HCR.out.trans hck)
      replace HRR := Lib.hid (HRR.out.new hck)
      clear hck
      by_cases hme : m = xs.length
      · have hmb : ((m : Int) == (xs.length : Int)) = true := beq_iff_eq.2 (by omega)
        clear hme
        go_wp2
        go_ret
        exact ⟨rfl, HCH.out.trans HCK.out⟩
      · have hmb : ((m : Int) == (xs.length : Int)) = false := beq_eq_false_iff_ne.2 (by omega)
        have hf0 : freePages D = 0 := HFR.out (by omega)
        clear hme
        have HFP := Lib.hid (iFreePages_any _ Ai ci D _ HRR.out)
        rw [hf0] at HFP
        clear hf0
        go_wp2_with fail
        refine HFP.out.mono ?_
        rintro e wj ⟨rfl, hcj⟩
        have HCJ := Lib.hid (HCK.out.trans hcj)
        clear hcj
        go_wp2
        go_ret
        exact ⟨rfl, HCH.out.trans HCJ.out⟩
    have hk0 : (0 : Int) ≤ (k : Int) := Int.natCast_nonneg _
    have hk' : (k : Int) < 2 := by omega
    obtain ⟨cut, hcut, cz⟩ := HCE.out _ hcr k hk
    have HXR := Lib.hid (rd_putsTake (HX.out.new hcr) cut)
    have htl : (xs.take cut).length = cut := by rw [List.length_take]; omega
    have HXT := Lib.hid htl
    obtain ⟨hoc, hce, h1, hrc⟩ := runPuts_cut HOK.out HM.out hcut
    obtain ⟨⟨De, re⟩, hRe⟩ : ∃ q, runPuts n (xs.take cut) = q := ⟨_, rfl⟩
    rw [hRe] at hce hrc
    obtain rfl : re = (cut : Int) := hce
    have HRUN := Lib.hid (show Calls Try.prog 43 #[.int .i64 n, .slice (some ad) cut cx] wr (RunP wr n (xs.take cut)) by
      have := iRunPuts_any _ (some ad) cx n (xs.take cut) wr HXR.out
      rwa [htl] at this)
    have HRL := Lib.hid hRe
    have HRC := Lib.hid (show Runs n.toNat De h1 (xs.take cut) from hrc)
    have HPO := Lib.hid hoc.2
    have hcc : ((cut : Int) != (cut : Int)) = false := by simp
    have hc0 : (0 : Int) ≤ (cut : Int) := Int.natCast_nonneg _
    have hc1 : (cut : Int) ≤ (cx : Int) := by have := HXL.out.1; omega
    have hc2 : cut ≤ cx := by omega
    clear hcr hcut htl hoc hrc hRe
    go_wp2_with fail
    refine HRUN.out.mono ?_
    rintro e wa ⟨Ae, ce, Te, rfl, hTe, hOe, hca⟩
    rw [HRL.out] at hTe ⊢
    have hRe := hOe.reads
    rw [hTe] at hRe
    have HRE2 := Lib.hid hRe
    have HCA := Lib.hid (HCR.out.trans hca)
    have HXA := Lib.hid (HXR.out.new hca)
    clear hRe hOe hTe hca HRUN HXR cz
    go_wp2_with fail
    refine (iTableOf_any _ Ae ce De _ HRE2.out).mono ?_
    rintro e wb ⟨At, ct, Tt, rfl, hXt, hcb, hOt⟩
    obtain ⟨X, hXe⟩ : ∃ X, tableOf De = X := ⟨_, rfl⟩
    have HTOK := Lib.hid (show tabOk X by rw [← hXe]; exact tableOf_ok HRC.out.ok.1)
    have HRD := Lib.hid (show ∀ f p : Nat, f < 4 → p < 4 → (readPage De (tget X f p)).full = decide (0 ≤ lastVal f p (xs.take cut)) ∧ ((readPage De (tget X f p)).full = true → (readPage De (tget X f p)).value = lastVal f p (xs.take cut)) by
      intro f p hf hp
      rw [← hXe]
      exact HRC.out.reads HPO.out (by omega) (by omega))
    rw [hXe] at hXt ⊢
    have hRt := hOt.reads
    rw [hXt] at hRt
    obtain ⟨B, hB⟩ : ∃ B, wb.heap.size = B := ⟨_, rfl⟩
    obtain ⟨wt, hwt⟩ : ∃ wt, wb.alloc (.cells #[.slice At X.length ct] 31) = wt := ⟨_, rfl⟩
    have hcd : Chg NoB wb wt := by rw [← hwt]; exact (Chg.refl _ _).alloc _
    have hbt : Blk wt B 31 #[.slice At X.length ct] := by rw [← hwt, ← hB]; exact Blk.new _ _ _
    have zt : wt.cell? ⟨B, 0, none⟩ = some (.slice At X.length ct) := (hbt.cell _).trans rfl
    have HCT := Lib.hid ((HCA.out.trans hcb).trans hcd)
    have HXT2 := Lib.hid ((HXA.out.new hcb).new hcd)
    have HDE := Lib.hid ((HRE2.out.new hcb).new hcd)
    have HTT := Lib.hid (hRt.new hcd)
    have HWT := Lib.hid hwt
    have HBB := Lib.hid hB
    clear hXe hXt hOt hRt hcb hcd hbt HCA HXA HRE2 hwt hB
    go_wp2_with fail
    rw [HWT.out, HBB.out]
    clear HWT HBB
    go_loopw [14] (fun i wf => ∃ f : Nat, f ≤ 4 ∧ i = .int .i64 f ∧ Chg NoB wt wf) (fun i _ => 4 - (intOf i).toNat)
    case atStart => exact ⟨0, Nat.zero_le _, rfl, Chg.refl _ _⟩
    case round =>
      obtain ⟨f, hf4, rfl, hcf⟩ := hrel
      have HCF := Lib.hid hcf
      clear hcf
      by_cases hf : f < 4
      case neg =>
        have hf' : ¬ ((f : Int) < 4) := by omega
        go_wp2
        go_roundw
        case rel =>
          repeat apply Exists.intro
          exact ⟨⟨k + 1, by omega, by go_num, HCT.out.trans HCF.out⟩, rfl, rfl, rfl, rfl, rfl, rfl, rfl, rfl, rfl, rfl, rfl⟩
        case measure => simp [intOf]; omega
      have hf' : (f : Int) < 4 := by omega
      go_wp2_with fail
      go_loopw [15] (fun i wp => ∃ p : Nat, p ≤ 4 ∧ i = .int .i64 p ∧ Chg NoB wt wp) (fun i _ => 4 - (intOf i).toNat)
      case atStart => exact ⟨0, Nat.zero_le _, rfl, HCF.out⟩
      case round =>
        obtain ⟨p, hp4, rfl, hcp⟩ := hrel
        have HCP := Lib.hid hcp
        by_cases hp : p < 4
        case neg =>
          have hp' : ¬ ((p : Int) < 4) := by omega
          clear hcp
          go_wp2
          go_roundw
          case rel => exact ⟨f + 1, by omega, by go_num, HCP.out⟩
          case measure => simp [intOf]; omega
        have hp' : (p : Int) < 4 := by omega
        have s0 := hcp.cell zt (fun x => x)
        obtain ⟨hv1, hv2⟩ := HRD.out f p hf hp
        have HV1 := Lib.hid hv1
        have HV2 := Lib.hid hv2
        clear hcp hv1 hv2
        go_wp2_with fail
        refine (iTableGetT_any _ At ct X _ (HTT.out.new HCP.out) HTOK.out f p (by omega) (by omega)).mono ?_
        rintro e wx ⟨rfl, hcx⟩
        obtain ⟨at_, hat⟩ : ∃ z, tget X f p = z := ⟨_, rfl⟩
        rw [hat] at HV1 HV2 ⊢
        have HCX := Lib.hid (HCP.out.trans hcx)
        clear hcx s0 hat
        go_wp2_with fail
        refine (iReadPage_any _ Ae ce De at_ _ (HDE.out.new HCX.out)).mono ?_
        rintro e wy ⟨rfl, hcy⟩
        obtain ⟨P, hP⟩ : ∃ P, readPage De at_ = P := ⟨_, rfl⟩
        rw [hP] at HV1 HV2 ⊢
        have hca := (Chg.refl NoB wy).alloc (.cells #[.bool P.full, .int .i64 P.file, .int .i64 P.place, .int .i64 P.value, .int .i64 P.stamp] 80)
        have hbx := Blk.new wy 80 #[.bool P.full, .int .i64 P.file, .int .i64 P.place, .int .i64 P.value, .int .i64 P.stamp]
        have x3 := hbx.cell 3
        replace x3 := x3.trans (show _ = some (Value.int .i64 P.value) from rfl)
        have HX3 := Lib.hid x3
        have HCY := Lib.hid ((HCX.out.trans hcy).trans hca)
        have HPV := Lib.hid (show Calls Try.prog 49 #[.slice (some ad) cut cx, .int .i64 f, .int .i64 p] _ (PutV _ f p (xs.take cut)) by
          have := iPutValue_any _ (some ad) cx (xs.take cut) f p _ (HXT2.out.new HCY.out)
          rwa [HXT.out] at this)
        have hpv : pval P = .agg #[.bool P.full, .int .i64 P.file, .int .i64 P.place, .int .i64 P.value, .int .i64 P.stamp] := rfl
        rw [hpv]
        clear hcy hca hbx x3 hP hpv
        go_wp2_with fail
        refine HPV.out.mono ?_
        rintro e wz ⟨v, rfl, hv, -, hcz⟩
        obtain rfl : v = lastVal f p (xs.take cut) := hv HPO.out
        have x3 := hcz.cell HX3.out (fun x => x)
        have HCZ := Lib.hid (HCY.out.trans hcz)
        clear hcz hv HPV HX3
        obtain ⟨v, hv⟩ : ∃ v, lastVal f p (xs.take cut) = v := ⟨_, rfl⟩
        rw [hv] at HV1 HV2 ⊢
        clear hv
        obtain ⟨fl, hfl⟩ : ∃ fl, P.full = fl := ⟨_, rfl⟩
        rw [hfl] at HV1 HV2 ⊢
        cases fl
        case false =>
          have hv0 : ¬ (0 ≤ v) := by have := HV1.out; intro hh; rw [decide_eq_true hh] at this; cases this
          clear hfl
          go_wp2_with fail
          go_roundw
          case rel => exact ⟨p + 1, by omega, by go_num, HCZ.out⟩
          case measure => simp [intOf]; omega
        case true =>
          have hv0 : 0 ≤ v := by have := HV1.out; exact of_decide_eq_true this.symm
          have hve : P.value = v := HV2.out rfl
          rw [hve] at x3
          have hvv : (v != v) = false := by simp
          clear hfl hve
          go_wp2_with fail
          go_roundw
          case rel => exact ⟨p + 1, by omega, by go_num, HCZ.out⟩
          case measure => simp [intOf]; omega

end Go.Proofs.Ytpiojofmflfkkaa
