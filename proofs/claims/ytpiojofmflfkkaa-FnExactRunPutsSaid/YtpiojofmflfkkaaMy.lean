/- Parts of the proof, merged: Uo. -/
import Derived.Test.YtpiojofmflfkkaaMs
import Derived.Test.YtpiojofmflfkkaaMfi
import Derived.Test.YtpiojofmflfkkaaMp
import Derived.Test.YtpiojofmflfkkaaMb
/- The law FnExactRunPuts: the walk. -/
namespace Go.Proofs.Ytpiojofmflfkkaa
open Go.RowKit
theorem endT_fits (T : List BkO) : ∀ k, (∀ r ∈ T, r.ps.length ≤ 4) → endT T k ≤ k + 21 * (T.length : Int) := by
  induction T with
  | nil => intro k _; simp [endT]
  | cons r T ih =>
    intro k h
    have h1 := ih (k + 1 + 5 * (r.ps.length : Int)) (fun q hq => h q (List.mem_cons_of_mem _ hq))
    have h2 := h r (List.mem_cons_self ..)
    unfold endT
    simp only [List.length_cons]
    omega
theorem runPuts_fits (n : Int) (xs : List Pt) : (runPuts n xs).1.length ≤ 12 ∧ ∀ b ∈ (runPuts n xs).1, b.pages.length = 4 := by
  unfold runPuts
  split
  · rename_i h
    obtain ⟨N, rfl⟩ := Int.eq_ofNat_of_zero_le (show 0 ≤ n by omega)
    have hN : 1 ≤ N ∧ N ≤ 12 := by omega
    obtain ⟨h1, h2, -, -⟩ := runAt_len xs (newDevice (N : Int)) ⟨-1, -1, -1⟩ 0 N (newDv_len hN) (heads_none hN) (fun k hk => by rw [Nat.zero_add]; exact (pgOf_ok h.2 hk).1)
    refine ⟨by rw [h2]; exact hN.2, fun b hb => ?_⟩
    obtain ⟨k, hk, rfl⟩ := List.getElem_of_mem hb
    exact (h1.2 k hk).2.1
  · simp
def PutB (w : World) (g : Nat) (xs : List Pt) : Prop := Blk w g 138 (putcells xs).toArray
theorem PutB.new {w w' : World} {g : Nat} {xs : List Pt} (h : PutB w g xs) (hc : Chg NoB w w') : PutB w' g xs := Blk.chg h hc (fun x => x)
set_option maxRecDepth 100000 in
set_option maxHeartbeats 2000000 in
theorem FnExactRunPuts_any (n : Int) (A : Option Addr) (c : Nat) (xs : List Pt) (w : World) (h : Rd (fun i => i < w.heap.size) w A (putcells xs)) (hc : xs.length ≤ c) (hm : c ≤ maxLen) :
    Calls Try.prog 6 #[.int .i64 n, .slice A xs.length c] w fun e w' => e = .returned (.bool true) ∧ Chg NoB w w' := by
  go_enter Try.func6, Try.ntmps6
  go_wp2_with fail
  refine (szPutS_any A xs.length c w (by omega)).mono ?_
  rintro e w' ⟨x, rfl, hx, rfl⟩
  by_cases hl : 1048576 < xs.length
  · have hx0 : x < 0 := hx.2 hl
    go_wp2
    go_ret
    exact ⟨rfl, Chg.refl _ _⟩
  have HL := Lib.hid (show xs.length ≤ 1048576 by omega)
  have hx0 : ¬ x < 0 := fun hh => hl (hx.1 hh)
  obtain ⟨⟨D, r⟩, hR⟩ : ∃ q, runPuts n xs = q := ⟨_, rfl⟩
  have HRE := Lib.hid hR
  have HF := Lib.hid (show D.length ≤ 12 ∧ ∀ b ∈ D, b.pages.length = 4 by have := runPuts_fits n xs; rw [hR] at this; exact this)
  have HSM := Lib.hid (show Small D from ⟨by have := HF.out.1; omega, fun k hk => by have := HF.out.2 _ (List.getElem_mem hk); omega⟩)
  have hrr : (r != r) = false := by simp
  clear hx hl hR hc hm
  have HCH := Lib.hid (Chg.refl NoB w)
  have HX := Lib.hid h
  clear h
  go_wp2_with fail
  refine (toPutS_any _ A c xs _ HX.out HL.out).mono ?_
  rintro e w21 ⟨g1, rfl, hg1, hc22, hb1⟩
  replace HCH := Lib.hid (HCH.out.trans hc22)
  replace HX := Lib.hid (HX.out.new hc22)
  have S23 := Lib.hid hc22.size
  clear hc22
  have hRd1 := hb1.rd
  have RP1 := Lib.hid hRd1
  have HPB1 := Lib.hid (show PutB _ g1 xs from hb1)
  have HGL1 := Lib.hid hg1
  have HGU1 := Lib.hid hb1.lt
  clear hRd1 hb1 hg1
  go_wp2_with fail
  refine (sRunPuts_any _ _ _ n xs _ RP1.out (by have := HL.out; omega)).mono ?_
  rintro e w24 ⟨As, cs, Ts, rfl, hTs, hOs, hc25⟩
  replace HCH := Lib.hid (HCH.out.trans hc25)
  replace HX := Lib.hid (HX.out.new hc25)
  replace RP1 := Lib.hid (RP1.out.new hc25)
  replace HPB1 := Lib.hid (HPB1.out.new hc25)
  have S26 := Lib.hid hc25.size
  rw [HRE.out] at hTs ⊢
  have hRs := hOs.reads
  rw [hTs] at hRs
  have Rs := Lib.hid hRs
  have Os := Lib.hid hOs.1
  have HTs := Lib.hid hTs
  clear hRs hOs hTs hc25
  clear RP1
  clear HPB1
  go_wp2_with fail
  refine (toPutS_any _ A c xs _ HX.out HL.out).mono ?_
  rintro e w27 ⟨g2, rfl, hg2, hc28, hb2⟩
  replace HCH := Lib.hid (HCH.out.trans hc28)
  replace HX := Lib.hid (HX.out.new hc28)
  replace Rs := Lib.hid (Rs.out.new hc28)
  replace Os := Lib.hid (Os.out.new hc28)
  have S29 := Lib.hid hc28.size
  clear hc28
  have hRd2 := hb2.rd
  have RP2 := Lib.hid hRd2
  have HPB2 := Lib.hid (show PutB _ g2 xs from hb2)
  have HGL2 := Lib.hid hg2
  have HGU2 := Lib.hid hb2.lt
  clear hRd2 hb2 hg2
  go_wp2_with fail
  refine (iRunPuts_any _ _ _ n xs _ RP2.out).mono ?_
  rintro e w30 ⟨Ai, ci, Ti, rfl, hTi, hOi, hc31⟩
  replace HCH := Lib.hid (HCH.out.trans hc31)
  replace HX := Lib.hid (HX.out.new hc31)
  replace Rs := Lib.hid (Rs.out.new hc31)
  replace Os := Lib.hid (Os.out.new hc31)
  replace RP2 := Lib.hid (RP2.out.new hc31)
  replace HPB2 := Lib.hid (HPB2.out.new hc31)
  have S32 := Lib.hid hc31.size
  rw [HRE.out] at hTi ⊢
  have hRi := hOi.reads
  rw [hTi] at hRi
  have Ri := Lib.hid hRi
  have Oi := Lib.hid hOi.1
  have HTi := Lib.hid hTi
  clear hRi hOi hTi hc31
  go_wp2_with fail
  refine (eqBlockS_t _ _ _ _ _ _ D _ Ri.out Rs.out HSM.out).mono ?_
  rintro e w33 ⟨rfl, hc34⟩
  replace HCH := Lib.hid (HCH.out.trans hc34)
  replace HX := Lib.hid (HX.out.new hc34)
  replace Rs := Lib.hid (Rs.out.new hc34)
  replace Os := Lib.hid (Os.out.new hc34)
  replace RP2 := Lib.hid (RP2.out.new hc34)
  replace HPB2 := Lib.hid (HPB2.out.new hc34)
  replace Ri := Lib.hid (Ri.out.new hc34)
  replace Oi := Lib.hid (Oi.out.new hc34)
  have S35 := Lib.hid hc34.size
  clear hc34
  go_wp2_with fail
  refine (toPutS_any _ A c xs _ HX.out HL.out).mono ?_
  rintro e w36 ⟨g3, rfl, hg3, hc37, hb3⟩
  replace HCH := Lib.hid (HCH.out.trans hc37)
  replace HX := Lib.hid (HX.out.new hc37)
  replace Rs := Lib.hid (Rs.out.new hc37)
  replace Os := Lib.hid (Os.out.new hc37)
  replace RP2 := Lib.hid (RP2.out.new hc37)
  replace HPB2 := Lib.hid (HPB2.out.new hc37)
  replace Ri := Lib.hid (Ri.out.new hc37)
  replace Oi := Lib.hid (Oi.out.new hc37)
  have S38 := Lib.hid hc37.size
  clear hc37
  have hRd3 := hb3.rd
  have RP3 := Lib.hid hRd3
  have HPB3 := Lib.hid (show PutB _ g3 xs from hb3)
  have HGL3 := Lib.hid hg3
  have HGU3 := Lib.hid hb3.lt
  clear hRd3 hb3 hg3
  go_wp2_with fail
  refine (eqPutS_t _ _ _ _ _ _ xs _ RP2.out RP3.out (by have := HL.out; omega)).mono ?_
  rintro e w39 ⟨rfl, hc40⟩
  replace HCH := Lib.hid (HCH.out.trans hc40)
  replace HX := Lib.hid (HX.out.new hc40)
  replace Rs := Lib.hid (Rs.out.new hc40)
  replace Os := Lib.hid (Os.out.new hc40)
  replace RP2 := Lib.hid (RP2.out.new hc40)
  replace HPB2 := Lib.hid (HPB2.out.new hc40)
  replace Ri := Lib.hid (Ri.out.new hc40)
  replace Oi := Lib.hid (Oi.out.new hc40)
  replace RP3 := Lib.hid (RP3.out.new hc40)
  replace HPB3 := Lib.hid (HPB3.out.new hc40)
  have S41 := Lib.hid hc40.size
  clear hc40
  go_wp2_with fail
  refine (markPutS_any g2 xs.length xs.length (putcells xs).toArray 1 _ HPB2.out (by simp [putcells_len]) HL.out (by omega) (by omega)).mono ?_
  rintro e w42 ⟨rfl, hc43⟩
  have hcm := hc43.mono (G := fun i => g2 ≤ i ∧ i < g2 + 1) (fun i _ hi => by have hi2 : i = g2 := hi; omega)
  clear RP3
  clear HPB3
  clear RP2
  clear HPB2
  replace HCH := Lib.hid (HCH.out.trans' hcm (fun i hi => .inr (by have := S23.out; have := S26.out; have := S29.out; have := S32.out; have := S35.out; have := S38.out; have := S41.out; have := HGL2.out; have := HGU2.out; omega)))
  replace HX := Lib.hid (HX.out.chg hcm (fun i h1 h2 => by have := S23.out; have := S26.out; have := S29.out; have := S32.out; have := S35.out; have := S38.out; have := S41.out; have := HGL2.out; have := HGU2.out; omega))
  replace Rs := Lib.hid (Rs.out.chg hcm (fun i h1 h2 => by have := S23.out; have := S26.out; have := S29.out; have := S32.out; have := S35.out; have := S38.out; have := S41.out; have := HGL2.out; have := HGU2.out; omega))
  replace Os := Lib.hid (Os.out.chg hcm (fun i h1 h2 h3 => by have := S23.out; have := S26.out; have := S29.out; have := S32.out; have := S35.out; have := S38.out; have := S41.out; have := HGL2.out; have := HGU2.out; omega))
  replace Ri := Lib.hid (Ri.out.chg hcm (fun i h1 h2 => by have := S23.out; have := S26.out; have := S29.out; have := S32.out; have := S35.out; have := S38.out; have := S41.out; have := HGL2.out; have := HGU2.out; omega))
  replace Oi := Lib.hid (Oi.out.chg hcm (fun i h1 h2 h3 => by have := S23.out; have := S26.out; have := S29.out; have := S32.out; have := S35.out; have := S38.out; have := S41.out; have := HGL2.out; have := HGU2.out; omega))
  have S44 := Lib.hid hcm.size
  clear hc43 hcm
  have hk0 : ¬ ((1 : Int) + 3 * (xs.length : Int) < 0) := by omega
  go_wp2_with fail
  refine (eqBlockS_t _ _ _ _ _ _ D _ Ri.out Rs.out HSM.out).mono ?_
  rintro e w45 ⟨rfl, hc46⟩
  replace HCH := Lib.hid (HCH.out.trans hc46)
  replace HX := Lib.hid (HX.out.new hc46)
  replace Rs := Lib.hid (Rs.out.new hc46)
  replace Os := Lib.hid (Os.out.new hc46)
  replace Ri := Lib.hid (Ri.out.new hc46)
  replace Oi := Lib.hid (Oi.out.new hc46)
  have S47 := Lib.hid hc46.size
  clear hc46
  have HTL := Lib.hid (show Ti.length = D.length by rw [← HTi.out, bksOf_length])
  have HT4 := Lib.hid (show ∀ r ∈ Ti, r.ps.length ≤ 4 from fun r hr => by
    have := HF.out.2 r.bk (by rw [← HTi.out]; exact List.mem_map_of_mem hr)
    exact Nat.le_of_eq this)
  have HKE := Lib.hid (show 1 ≤ endT Ti 1 ∧ endT Ti 1 ≤ 1000 by have h1 := endT_le Ti 1; have h2 := endT_fits Ti 1 HT4.out; have := HTL.out; have := HF.out.1; omega)
  have hmk := markBlockS_any _ _ Ai ci Ti 1 w45 Oi.out (fun r hr => by have := HT4.out r hr; omega) (by have := HTL.out; have := HF.out.1; omega) (by omega) (by have := HKE.out; omega)
  rw [HTL.out] at hmk
  have HMK := Lib.hid hmk
  clear hmk
  go_wp2_with fail
  refine (HMK.out).mono ?_
  rintro e w48 ⟨rfl, hc49, hDm⟩
  clear Ri
  replace HCH := Lib.hid (HCH.out.trans' hc49 (fun i hi => .inr (by have := S23.out; have := S26.out; have := S29.out; have := S32.out; have := S35.out; have := S38.out; have := S41.out; have := HGL2.out; have := HGU2.out; have := S44.out; have := S47.out; omega)))
  replace HX := Lib.hid (HX.out.chg hc49 (fun i h1 h2 => by have := S23.out; have := S26.out; have := S29.out; have := S32.out; have := S35.out; have := S38.out; have := S41.out; have := HGL2.out; have := HGU2.out; have := S44.out; have := S47.out; omega))
  replace Rs := Lib.hid (Rs.out.chg hc49 (fun i h1 h2 => by have := S23.out; have := S26.out; have := S29.out; have := S32.out; have := S35.out; have := S38.out; have := S41.out; have := HGL2.out; have := HGU2.out; have := S44.out; have := S47.out; omega))
  replace Os := Lib.hid (Os.out.chg hc49 (fun i h1 h2 h3 => by have := S23.out; have := S26.out; have := S29.out; have := S32.out; have := S35.out; have := S38.out; have := S41.out; have := HGL2.out; have := HGU2.out; have := S44.out; have := S47.out; omega))
  have S50 := Lib.hid hc49.size
  clear Oi hc49
  have hRm := hDm.reads
  have RM := Lib.hid hRm
  clear hRm hDm
  have HHB := Lib.hid (show ∀ (F : Nat → Prop) (wq : World), DevR F wq Ai (bksOf (markT Ti 1)) → Calls Try.prog 31 #[.slice Ai D.length ci, .int .i64 1] wq fun e w' => e = .returned (.int .i64 (endT Ti 1)) ∧ wq = w' from fun F wq hq => by
    have := heldBlockS_any F Ai ci Ti 1 wq hq (fun r hr => by have := HT4.out r hr; omega) (by have := HTL.out; have := HF.out.1; omega) (by omega) (by have := HKE.out; omega)
    rwa [HTL.out] at this)
  obtain ⟨kd, hkd⟩ : ∃ kd, endT Ti 1 = kd := ⟨_, rfl⟩
  rw [hkd] at HHB HKE ⊢
  have hkk : (kd != kd) = false := by simp
  have hkn : ¬ kd < 0 := by have := HKE.out; omega
  clear hkd
  go_wp2_with fail
  refine (HHB.out _ _ RM.out).mono ?_
  rintro e w' ⟨rfl, rfl⟩
  go_wp2_with fail
  refine (toPutS_any _ A c xs _ HX.out HL.out).mono ?_
  rintro e w51 ⟨g4, rfl, hg4, hc52, hb4⟩
  replace HCH := Lib.hid (HCH.out.trans hc52)
  replace HX := Lib.hid (HX.out.new hc52)
  replace Rs := Lib.hid (Rs.out.new hc52)
  replace Os := Lib.hid (Os.out.new hc52)
  replace RM := Lib.hid (RM.out.new hc52)
  have S53 := Lib.hid hc52.size
  clear hc52
  have hRd4 := hb4.rd
  have RP4 := Lib.hid hRd4
  have HPB4 := Lib.hid (show PutB _ g4 xs from hb4)
  have HGL4 := Lib.hid hg4
  have HGU4 := Lib.hid hb4.lt
  clear hRd4 hb4 hg4
  go_wp2_with fail
  refine (iRunPuts_any _ _ _ n xs _ RP4.out).mono ?_
  rintro e w54 ⟨Ah, ch, Th, rfl, hTh, hOh, hc55⟩
  replace HCH := Lib.hid (HCH.out.trans hc55)
  replace HX := Lib.hid (HX.out.new hc55)
  replace Rs := Lib.hid (Rs.out.new hc55)
  replace Os := Lib.hid (Os.out.new hc55)
  replace RM := Lib.hid (RM.out.new hc55)
  replace RP4 := Lib.hid (RP4.out.new hc55)
  replace HPB4 := Lib.hid (HPB4.out.new hc55)
  have S56 := Lib.hid hc55.size
  rw [HRE.out] at hTh ⊢
  have hRh := hOh.reads
  rw [hTh] at hRh
  have Rh := Lib.hid hRh
  have Oh := Lib.hid hOh.1
  have HTh := Lib.hid hTh
  clear hRh hOh hTh hc55
  go_wp2_with fail
  refine (eqBlockS_t _ _ _ _ _ _ D _ Rh.out Rs.out HSM.out).mono ?_
  rintro e w57 ⟨rfl, hc58⟩
  replace HCH := Lib.hid (HCH.out.trans hc58)
  replace HX := Lib.hid (HX.out.new hc58)
  replace Rs := Lib.hid (Rs.out.new hc58)
  replace Os := Lib.hid (Os.out.new hc58)
  replace RM := Lib.hid (RM.out.new hc58)
  replace RP4 := Lib.hid (RP4.out.new hc58)
  replace HPB4 := Lib.hid (HPB4.out.new hc58)
  replace Rh := Lib.hid (Rh.out.new hc58)
  replace Oh := Lib.hid (Oh.out.new hc58)
  have S59 := Lib.hid hc58.size
  clear hc58
  go_wp2_with fail
  refine (HHB.out _ _ RM.out).mono ?_
  rintro e w' ⟨rfl, rfl⟩
  go_wp2
  go_ret
  exact ⟨rfl, HCH.out⟩
end Go.Proofs.Ytpiojofmflfkkaa
