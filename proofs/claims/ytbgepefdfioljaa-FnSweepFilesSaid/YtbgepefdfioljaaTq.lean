/- SweepFiles of the program and of the reference. -/
import Derived.Test.YtbgepefdfioljaaTk
import Derived.Test.YtbgepefdfioljaaKb
namespace Go.Proofs.Ytbgepefdfioljaa
open Go.RowKit
theorem ty_tab2 : (3 : Nat) ≠ 39 := by decide
def sweepN (X : List (List Int)) (ls : List Lk) : Nat → List (List Int)
  | 0 => X
  | f + 1 => match ls[f]? with
    | some l => if l.names = 0 ∧ l.opens = 0 then (sweepN X ls f).set f (List.replicate 6 (-1)) else sweepN X ls f
    | none => sweepN X ls f
theorem sweepN_hit {X : List (List Int)} {ls : List Lk} {f : Nat} (h : f < ls.length) (h1 : ls[f].names = 0) (h2 : ls[f].opens = 0) : sweepN X ls (f + 1) = (sweepN X ls f).set f (List.replicate 6 (-1)) := by
  simp [sweepN, h, h1, h2]
theorem sweepN_miss {X : List (List Int)} {ls : List Lk} {f : Nat} (h : f < ls.length) (h1 : ¬ (ls[f].names = 0 ∧ ls[f].opens = 0)) : sweepN X ls (f + 1) = sweepN X ls f := by
  simp only [sweepN, List.getElem?_eq_getElem h, if_neg h1]
theorem sweepN_ok {X : List (List Int)} {ls : List Lk} (h : tabOk X) (f : Nat) : tabOk (sweepN X ls f) := by
  induction f with
  | zero => exact h
  | succ f ih =>
    unfold sweepN
    split
    · split
      · exact tabOk_cut ih f
      · exact ih
    · exact ih
def SweepIs (X : List (List Int)) (ls : List Lk) (Y : List (List Int)) : Prop := (tabOk X ∧ linksOk ls → Y = sweepN X ls 8) ∧ (¬ (tabOk X ∧ linksOk ls) → Y = [])
theorem SweepIs.det {X Y Y' : List (List Int)} {ls : List Lk} (h : SweepIs X ls Y) (h' : SweepIs X ls Y') : Y = Y' := by
  by_cases ha : tabOk X ∧ linksOk ls
  · rw [h.1 ha, h'.1 ha]
  · rw [h.2 ha, h'.2 ha]
theorem SweepIs.ex (X : List (List Int)) (ls : List Lk) : ∃ Y, SweepIs X ls Y := by
  by_cases ha : tabOk X ∧ linksOk ls
  · exact ⟨_, fun _ => rfl, fun hh => absurd ha hh⟩
  · exact ⟨_, fun hh => absurd hh ha, fun _ => rfl⟩
theorem SweepIs.small {X Y : List (List Int)} {ls : List Lk} (h : SweepIs X ls Y) : total Y ≤ 1048576 ∧ Y.length ≤ 9223372036854775807 ∧ ∀ r ∈ Y, r.length ≤ 9223372036854775807 := by
  by_cases ha : tabOk X ∧ linksOk ls
  · rw [h.1 ha]; exact tabOk_small (sweepN_ok ha.1 8)
  · rw [h.2 ha]; exact ⟨by simp [total], by simp, by simp⟩
def SweepP (w : World) (X : List (List Int)) (ls : List Lk) (e : Ending) (w' : World) : Prop :=
  ∃ A c T, e = .returned (.agg #[.slice A (T : List RowO).length c]) ∧ TabO w.heap.size w'.heap.size w' A c T ∧ Hid (SweepIs X ls (listsOf T)) ∧ Chg NoB w w'
set_option maxRecDepth 100000 in
set_option maxHeartbeats 1000000 in
theorem iSweepFiles_any (F G : Nat → Prop) (A : Option Addr) (c : Nat) (X : List (List Int)) (A2 : Option Addr) (c2 : Nat) (ls : List Lk) (w : World) (h : TabR F w A X) (hl : X.length ≤ 9223372036854775807) (hXr : ∀ r ∈ X, r.length ≤ 9223372036854775807) (h2 : Rd G w A2 (lcells ls)) (hl2 : ls.length ≤ 9223372036854775807) :
    Calls Try.prog 39 #[.agg #[.slice A X.length c], .slice A2 ls.length c2] w (SweepP w X ls) := by
  obtain ⟨hb1, hb2, hcb⟩ := lit2 w 39 39 #[.slice A X.length c] #[.slice none 0 0]
  have HB1 := Lib.hid hb1
  have HB2 := Lib.hid hb2
  have HC0 := Lib.hid hcb
  have h0 := Lib.hid (h.lt.new hcb)
  have hk0 := Lib.hid (h2.lt.new hcb)
  have HLL := Lib.hid (And.intro hl (And.intro hXr hl2))
  have HCS0 := Lib.hid (show ∀ wq u, Chg NoB w wq → Chg NoB w (wq.setCell ⟨w.heap.size + 1, 0, none⟩ u) from fun wq u hq => hq.own ((Chg.refl (· = w.heap.size + 1) wq).setCell (p := ⟨w.heap.size + 1, 0, none⟩) (.inl rfl) _) (Nat.le_succ _))
  have HNO : ¬ (tabOk X ∧ linksOk ls) → ∀ wq, Chg NoB w wq → Hid (SweepP w X ls (.returned (.agg #[.slice none 0 0])) wq) := fun ha wq hq => Lib.hid ⟨none, 0, [], rfl, TabO.nil _ _ _ _ _, Lib.hid ⟨fun hh => absurd hh ha, fun _ => rfl⟩, hq⟩
  clear hb1 hb2 hcb hl hXr hl2
  go_enter Try.func39, Try.ntmps39
  go_wp2_with fail
  refine (iTableValid_any _ A c X _ h0.out).mono ?_
  rintro e w1 ⟨r, rfl, hr, hc1⟩
  have HC1 := Lib.hid (HC0.out.trans hc1)
  have HR1 := Lib.hid (HB2.out.chg hc1 (fun x => x))
  have HT1 := Lib.hid (h0.out.new hc1)
  have HK1 := Lib.hid (hk0.out.new hc1)
  have x0 : w1.cell? ⟨w.heap.size, 0, none⟩ = some (.slice A X.length c) := ((HB1.out.chg hc1 (fun x => x)).cell _).trans rfl
  have y0 : w1.cell? ⟨w.heap.size + 1, 0, none⟩ = some (.slice none 0 0) := (HR1.out.cell _).trans rfl
  have yf := HR1.out.frozen 0
  have HB1' := Lib.hid (HB1.out.chg hc1 (fun x => x))
  have HRT := Lib.hid hr
  clear hr hc1
  cases r
  · go_wp2_with fail
    (try simp only [Exit.inBlock, Exit.then])
    refine bodyPost_ret (v := .agg #[.slice none 0 0]) (by simp [results, Try.results39, go_sem, *]) rfl ?_
    exact (HNO (fun hh => absurd (HRT.out.2 hh.1) (by simp)) _ (HCS0.out _ _ HC1.out)).out
  go_wp2_with fail
  refine (iLinksValid_any _ A2 c2 ls _ HK1.out).mono ?_
  rintro e w2 ⟨r2, rfl, hr2, hc2⟩
  have HC2 := Lib.hid (HC1.out.trans hc2)
  have HR2 := Lib.hid (HR1.out.chg hc2 (fun x => x))
  have HT2 := Lib.hid (HT1.out.new hc2)
  have HK2 := Lib.hid (HK1.out.new hc2)
  have x0 : w2.cell? ⟨w.heap.size, 0, none⟩ = some (.slice A X.length c) := hc2.cell x0 (fun x => x)
  have y0 : w2.cell? ⟨w.heap.size + 1, 0, none⟩ = some (.slice none 0 0) := (HR2.out.cell _).trans rfl
  have yf := HR2.out.frozen 0
  have HRK := Lib.hid hr2
  clear hr2 hc2
  cases r2
  · go_wp2_with fail
    (try simp only [Exit.inBlock, Exit.then])
    refine bodyPost_ret (v := .agg #[.slice none 0 0]) (by simp [results, Try.results39, go_sem, *]) rfl ?_
    exact (HNO (fun hh => absurd (HRK.out.2 hh.2) (by simp)) _ (HCS0.out _ _ HC2.out)).out
  have HX := Lib.hid (HRT.out.1 (by simp))
  have HK := Lib.hid (HRK.out.1 (by simp))
  clear yf y0
  go_wp2_with fail
  refine (cloneTable_any _ A c X _ HT2.out HX.out).mono ?_
  rintro e w3 ⟨g0, T0, rfl, hT, hc3, hO⟩
  have HT := Lib.hid hT
  have HO := Lib.hid hO
  have HC3 := Lib.hid (HC2.out.trans hc3)
  have HR3 := Lib.hid (HR2.out.chg hc3 (fun x => x))
  have HKK := Lib.hid (HK2.out.new hc3)
  have HS2 := Lib.hid hc3.size
  have HS1 := Lib.hid HR2.out.lt
  have hca := (Chg.refl NoB w3).alloc (.cells #[.slice (some ⟨g0, 0, none⟩) 8 8] 39)
  have HV0 := Lib.hid (Blk.new w3 39 #[.slice (some ⟨g0, 0, none⟩) 8 8])
  have HC4 := Lib.hid (HC3.out.trans hca)
  have HR4 := Lib.hid (HR3.out.chg hca (fun x => x))
  have HO4 := Lib.hid (HO.out.new hca)
  have HKK4 := Lib.hid (HKK.out.new hca)
  have HSZ := Lib.hid (show (w3.alloc (.cells #[.slice (some ⟨g0, 0, none⟩) 8 8] 39)).heap.size = w3.heap.size + 1 by rw [World.size_alloc])
  clear hT hO hc3 hca x0
  have hll8 := HK.out.1
  rw [hll8]
  clear hll8
  go_wp2
  obtain ⟨V, hV⟩ : ∃ V, w3.heap.size = V := ⟨_, rfl⟩
  have hVz := HSZ.out
  have hVs := HS2.out
  rw [hV] at HV0 hVz hVs HO HO4 ⊢
  replace HSZ := Lib.hid hVz
  replace HS2 := Lib.hid hVs
  clear hV hVz hVs
  go_loopw [6, 7, 21] (fun _ _ i wr => ∃ (f : Nat) (T : List RowO) (D : Option Addr) (d B E : Nat), f ≤ 8 ∧ i = .int .i64 f ∧ Chg NoB w wr ∧ Blk wr (w.heap.size + 1) 39 #[.slice none 0 0] ∧ Blk wr V 39 #[.slice D 8 d] ∧ Hid (listsOf T = sweepN X ls f) ∧ TabO B E wr D d T ∧ w2.heap.size ≤ B ∧ E ≤ wr.heap.size ∧ (E ≤ V ∨ V < B)) (fun _ _ i _ => 8 - (intOf i).toNat)
  case atStart => exact ⟨0, T0, (some ⟨g0, 0, none⟩), 8, _, _, Nat.zero_le _, rfl, HC4.out, HR4.out, HV0.out, Lib.hid HT.out, HO4.out, Nat.le_refl _, by rw [HSZ.out]; omega, .inl (Nat.le_refl _)⟩
  case round =>
    obtain ⟨wo, rfl⟩ : ∃ wo, wo = wr := ⟨_, rfl⟩
    obtain ⟨f, T', D, d, B, E, hf8, rfl, hch, hbr, hbv, hT', hO, hB, hE, hBE⟩ := hrel
    have HC := Lib.hid hch
    have HR := Lib.hid hbr
    have HVV := Lib.hid hbv
    have HOO := Lib.hid hO
    have v0 : wo.cell? ⟨V, 0, none⟩ = some (.slice D 8 d) := (hbv.cell _).trans rfl
    have vf := hbv.frozen 0
    by_cases hlt : f < 8
    · have HFL := Lib.hid (show f < ls.length by rw [HK.out.1]; exact hlt)
      have hi0 : (0 : Int) ≤ (f : Int) := Int.natCast_nonneg _
      have hi1 : (f : Int) < 8 := by omega
      obtain ⟨bb, oo, rfl, hbf, hbl, hc0, hc1'⟩ := lk_at ((h2.lt.new hch)) (k := f) HFL.out
      obtain ⟨nm, hnm⟩ : ∃ nm, (ls[f]'HFL.out).names = nm := ⟨_, rfl⟩
      obtain ⟨op, hop⟩ : ∃ op, (ls[f]'HFL.out).opens = op := ⟨_, rfl⟩
      have HNM := Lib.hid hnm
      have HOP := Lib.hid hop
      rw [hnm] at hc0
      rw [hop] at hc1'
      clear hnm hop
      have hca := (Chg.refl NoB wo).alloc (.cells #[.int .i64 nm, .int .i64 op] 64)
      have v0a := hca.cell v0 (fun x => x)
      obtain ⟨wa, hwa, hca⟩ : ∃ wa, wo.alloc (.cells #[.int .i64 nm, .int .i64 op] 64) = wa ∧ Chg NoB wo wa := ⟨_, rfl, hca⟩
      have HWA := Lib.hid hwa
      have HCA := Lib.hid (HC.out.trans hca)
      have HRA := Lib.hid (HR.out.chg hca (fun x => x))
      have HVA := Lib.hid (HVV.out.chg hca (fun x => x))
      have HOA := Lib.hid (HOO.out.new hca)
      have HSA := Lib.hid hca.size
      clear hwa hca hch hbr hbv hO
      by_cases hn : nm = 0
      · have hn' : (nm == 0) = true := beq_iff_eq.2 hn
        by_cases ho : op = 0
        · have ho' : (op == 0) = true := beq_iff_eq.2 ho
          have HST := Lib.hid (sweepN_hit (X := X) HFL.out (HNM.out.trans hn) (HOP.out.trans ho))
          have hok := sweepN_ok (ls := ls) HX.out f
          have htr := HOA.out.reads
          rw [hT'.out] at htr
          have hcv := iCutFile_any _ D d (sweepN X ls f) wa htr hok f hlt
          rw [hok.1] at hcv
          have HCV := Lib.hid hcv
          have HLV := Lib.hid HVA.out.lt
          clear hn ho hcv hok htr
          go_wp2_with fail
          rw [HWA.out]
          refine HCV.out.mono ?_
          rintro e w6 ⟨D6, d6, T6, rfl, hT6, hc6, hO6⟩
          have HT6 := Lib.hid hT6
          have HO6 := Lib.hid hO6
          have HC6 := Lib.hid hc6
          have HV6 := Lib.hid (HVA.out.chg hc6 (fun x => x))
          have v06 : w6.cell? ⟨V, 0, none⟩ = some (.slice D 8 d) := (HV6.out.cell _).trans rfl
          have vf6 := HV6.out.frozen 0
          clear hT6 hO6 hc6 v0 vf v0a
          go_wp2_with fail
          go_roundw
          case rel =>
            have hcs : Chg (· = V) w6 (w6.setCell ⟨V, 0, none⟩ (.slice D6 8 d6)) := (Chg.refl (· = V) w6).setCell (p := ⟨V, 0, none⟩) (.inl rfl) _
            have hlv := HLV.out
            have hs1 := HS1.out
            have hs2 := HS2.out
            have hsa := HSA.out
            have hs6 := HC6.out.size
            have hss : (w6.setCell ⟨V, 0, none⟩ (.slice D6 8 d6)).heap.size = w6.heap.size := World.size_setCell _ _ _
            exact ⟨f + 1, T6, D6, d6, _, _, by omega, by go_num, (HCA.out.trans HC6.out).own hcs (by omega), (HRA.out.chg HC6.out (fun x => x)).chg hcs (by omega), HV6.out.set_ 0 _, Lib.hid (by rw [HT6.out, HST.out]), HO6.out.chg hcs (fun i h1 h2 h3 => by omega), by omega, by rw [hss]; omega, .inr hlv⟩
          case measure => simp [intOf]; omega
        · have ho' : (op == 0) = false := beq_eq_false_iff_ne.2 ho
          have HST := Lib.hid (sweepN_miss (X := X) HFL.out (fun hh => ho (HOP.out.symm.trans hh.2)))
          clear hn ho
          go_wp2_with fail
          go_roundw
          case rel =>
            (try rw [HWA.out])
            have hsa := HSA.out
            exact ⟨f + 1, T', D, d, B, E, by omega, by go_num, HCA.out, HRA.out, HVA.out, Lib.hid (by rw [hT'.out, HST.out]), HOA.out, hB, by omega, hBE⟩
          case measure => simp [intOf]; omega
      · have hn' : (nm == 0) = false := beq_eq_false_iff_ne.2 hn
        have HST := Lib.hid (sweepN_miss (X := X) HFL.out (fun hh => hn (HNM.out.symm.trans hh.1)))
        clear hn
        go_wp2_with fail
        go_roundw
        case rel =>
          (try rw [HWA.out])
          have hsa := HSA.out
          exact ⟨f + 1, T', D, d, B, E, by omega, by go_num, HCA.out, HRA.out, HVA.out, Lib.hid (by rw [hT'.out, HST.out]), HOA.out, hB, by omega, hBE⟩
        case measure => simp [intOf]; omega
    · obtain rfl : f = 8 := by omega
      have r0 : wo.cell? ⟨w.heap.size + 1, 0, none⟩ = some (.slice none 0 0) := (hbr.cell _).trans rfl
      have rf := hbr.frozen 0
      clear hch hbr hbv hO
      go_wp2_with fail
      (try simp only [Exit.inBlock, Exit.then])
      refine bodyPost_ret (v := .agg #[.slice D 8 d]) (by simp [results, Try.results39, go_sem, *]) rfl ?_
      have hcs : Chg (· = w.heap.size + 1) wo (wo.setCell ⟨w.heap.size + 1, 0, none⟩ (.slice D 8 d)) := (Chg.refl (· = w.heap.size + 1) wo).setCell (p := ⟨w.heap.size + 1, 0, none⟩) (.inl rfl) _
      have hss : (wo.setCell ⟨w.heap.size + 1, 0, none⟩ (.slice D 8 d)).heap.size = wo.heap.size := World.size_setCell _ _ _
      have hs1 := HS1.out
      have hTl : T'.length = 8 := by rw [← listsOf_length, hT'.out]; exact (sweepN_ok HX.out 8).1
      refine ⟨D, d, T', by rw [hTl], ?_, Lib.hid ⟨fun _ => hT'.out, fun hh => absurd ⟨HX.out, HK.out⟩ hh⟩, HCS0.out _ _ HC.out⟩
      exact (HOO.out.chg hcs (fun i h1 h2 h3 => by omega)).more (by omega) (by rw [hss]; omega)
set_option maxRecDepth 100000 in
set_option maxHeartbeats 1000000 in
theorem sSweepFiles_any (F G : Nat → Prop) (A : Option Addr) (c : Nat) (X : List (List Int)) (A2 : Option Addr) (c2 : Nat) (ls : List Lk) (w : World) (h : TabR F w A X) (hl : X.length ≤ 9223372036854775807) (hXr : ∀ r ∈ X, r.length ≤ 9223372036854775807) (h2 : Rd G w A2 (lcells ls)) (hl2 : ls.length ≤ 9223372036854775807) :
    Calls Try.prog 40 #[.agg #[.slice A X.length c], .slice A2 ls.length c2] w (SweepP w X ls) := by
  obtain ⟨hb1, hb2, hcb⟩ := lit2 w 39 39 #[.slice A X.length c] #[.slice none 0 0]
  have HB1 := Lib.hid hb1
  have HB2 := Lib.hid hb2
  have HC0 := Lib.hid hcb
  have h0 := Lib.hid (h.lt.new hcb)
  have hk0 := Lib.hid (h2.lt.new hcb)
  have HLL := Lib.hid (And.intro hl (And.intro hXr hl2))
  have HCS0 := Lib.hid (show ∀ wq u, Chg NoB w wq → Chg NoB w (wq.setCell ⟨w.heap.size + 1, 0, none⟩ u) from fun wq u hq => hq.own ((Chg.refl (· = w.heap.size + 1) wq).setCell (p := ⟨w.heap.size + 1, 0, none⟩) (.inl rfl) _) (Nat.le_succ _))
  have HNO : ¬ (tabOk X ∧ linksOk ls) → ∀ wq, Chg NoB w wq → Hid (SweepP w X ls (.returned (.agg #[.slice none 0 0])) wq) := fun ha wq hq => Lib.hid ⟨none, 0, [], rfl, TabO.nil _ _ _ _ _, Lib.hid ⟨fun hh => absurd hh ha, fun _ => rfl⟩, hq⟩
  clear hb1 hb2 hcb hl hXr hl2
  go_enter Try.func40, Try.ntmps40
  go_wp2_with fail
  refine (sTableValid_any _ A c X _ h0.out HLL.out.1 HLL.out.2.1).mono ?_
  rintro e w1 ⟨r, rfl, hr, hc1⟩
  have HC1 := Lib.hid (HC0.out.trans hc1)
  have HR1 := Lib.hid (HB2.out.chg hc1 (fun x => x))
  have HT1 := Lib.hid (h0.out.new hc1)
  have HK1 := Lib.hid (hk0.out.new hc1)
  have x0 : w1.cell? ⟨w.heap.size, 0, none⟩ = some (.slice A X.length c) := ((HB1.out.chg hc1 (fun x => x)).cell _).trans rfl
  have y0 : w1.cell? ⟨w.heap.size + 1, 0, none⟩ = some (.slice none 0 0) := (HR1.out.cell _).trans rfl
  have yf := HR1.out.frozen 0
  have HB1' := Lib.hid (HB1.out.chg hc1 (fun x => x))
  have HRT := Lib.hid hr
  clear hr hc1
  cases r
  · go_wp2_with fail
    (try simp only [Exit.inBlock, Exit.then])
    refine bodyPost_ret (v := .agg #[.slice none 0 0]) (by simp [results, Try.results40, go_sem, *]) rfl ?_
    exact (HNO (fun hh => absurd (HRT.out.2 hh.1) (by simp)) _ (HCS0.out _ _ HC1.out)).out
  go_wp2_with fail
  refine (sLinksValid_any _ A2 c2 ls _ HK1.out HLL.out.2.2).mono ?_
  rintro e w2 ⟨r2, rfl, hr2, hc2⟩
  have HC2 := Lib.hid (HC1.out.trans hc2)
  have HR2 := Lib.hid (HR1.out.chg hc2 (fun x => x))
  have HT2 := Lib.hid (HT1.out.new hc2)
  have HK2 := Lib.hid (HK1.out.new hc2)
  have x0 : w2.cell? ⟨w.heap.size, 0, none⟩ = some (.slice A X.length c) := hc2.cell x0 (fun x => x)
  have y0 : w2.cell? ⟨w.heap.size + 1, 0, none⟩ = some (.slice none 0 0) := (HR2.out.cell _).trans rfl
  have yf := HR2.out.frozen 0
  have HRK := Lib.hid hr2
  clear hr2 hc2
  cases r2
  · go_wp2_with fail
    (try simp only [Exit.inBlock, Exit.then])
    refine bodyPost_ret (v := .agg #[.slice none 0 0]) (by simp [results, Try.results40, go_sem, *]) rfl ?_
    exact (HNO (fun hh => absurd (HRK.out.2 hh.2) (by simp)) _ (HCS0.out _ _ HC2.out)).out
  have HX := Lib.hid (HRT.out.1 (by simp))
  have HK := Lib.hid (HRK.out.1 (by simp))
  clear yf y0
  go_wp2_with fail
  refine (l7Copy_any _ A c X _ HT2.out HX.out).mono ?_
  rintro e w3 ⟨Dq, dq, T0, rfl, hT, hc3, hO⟩
  have HT := Lib.hid hT
  have HO := Lib.hid hO
  have HC3 := Lib.hid (HC2.out.trans hc3)
  have HR3 := Lib.hid (HR2.out.chg hc3 (fun x => x))
  have HKK := Lib.hid (HK2.out.new hc3)
  have HS2 := Lib.hid hc3.size
  have HS1 := Lib.hid HR2.out.lt
  have hca := (Chg.refl NoB w3).alloc (.cells #[.slice Dq 8 dq] 39)
  have HV0 := Lib.hid (Blk.new w3 39 #[.slice Dq 8 dq])
  have HC4 := Lib.hid (HC3.out.trans hca)
  have HR4 := Lib.hid (HR3.out.chg hca (fun x => x))
  have HO4 := Lib.hid (HO.out.new hca)
  have HKK4 := Lib.hid (HKK.out.new hca)
  have HSZ := Lib.hid (show (w3.alloc (.cells #[.slice Dq 8 dq] 39)).heap.size = w3.heap.size + 1 by rw [World.size_alloc])
  clear hT hO hc3 hca x0
  have hll8 := HK.out.1
  rw [hll8]
  clear hll8
  go_wp2
  obtain ⟨V, hV⟩ : ∃ V, w3.heap.size = V := ⟨_, rfl⟩
  have hVz := HSZ.out
  have hVs := HS2.out
  rw [hV] at HV0 hVz hVs HO HO4 ⊢
  replace HSZ := Lib.hid hVz
  replace HS2 := Lib.hid hVs
  clear hV hVz hVs
  go_loopw [6] (fun i wr => ∃ (f : Nat) (T : List RowO) (D : Option Addr) (d B E : Nat), f ≤ 8 ∧ i = .int .i64 f ∧ Chg NoB w wr ∧ Blk wr (w.heap.size + 1) 39 #[.slice none 0 0] ∧ Blk wr V 39 #[.slice D 8 d] ∧ Hid (listsOf T = sweepN X ls f) ∧ TabO B E wr D d T ∧ w2.heap.size ≤ B ∧ E ≤ wr.heap.size ∧ (E ≤ V ∨ V < B)) (fun i _ => 8 - (intOf i).toNat)
  case atStart => exact ⟨0, T0, Dq, dq, _, _, Nat.zero_le _, rfl, HC4.out, HR4.out, HV0.out, Lib.hid HT.out, HO4.out, Nat.le_refl _, by rw [HSZ.out]; omega, .inl (Nat.le_refl _)⟩
  case round =>
    obtain ⟨wo, rfl⟩ : ∃ wo, wo = wr := ⟨_, rfl⟩
    obtain ⟨f, T', D, d, B, E, hf8, rfl, hch, hbr, hbv, hT', hO, hB, hE, hBE⟩ := hrel
    have HC := Lib.hid hch
    have HR := Lib.hid hbr
    have HVV := Lib.hid hbv
    have HOO := Lib.hid hO
    have v0 : wo.cell? ⟨V, 0, none⟩ = some (.slice D 8 d) := (hbv.cell _).trans rfl
    have vf := hbv.frozen 0
    by_cases hlt : f < 8
    · have HFL := Lib.hid (show f < ls.length by rw [HK.out.1]; exact hlt)
      have hi0 : (0 : Int) ≤ (f : Int) := Int.natCast_nonneg _
      have hi1 : (f : Int) < 8 := by omega
      obtain ⟨bb, oo, rfl, hbf, hbl, hc0, hc1'⟩ := lk_at ((h2.lt.new hch)) (k := f) HFL.out
      obtain ⟨nm, hnm⟩ : ∃ nm, (ls[f]'HFL.out).names = nm := ⟨_, rfl⟩
      obtain ⟨op, hop⟩ : ∃ op, (ls[f]'HFL.out).opens = op := ⟨_, rfl⟩
      have HNM := Lib.hid hnm
      have HOP := Lib.hid hop
      rw [hnm] at hc0
      rw [hop] at hc1'
      clear hnm hop
      obtain ⟨wa, hwa, hca⟩ : ∃ wa, wo = wa ∧ Chg NoB wo wa := ⟨_, rfl, Chg.refl _ _⟩
      have HWA := Lib.hid hwa
      have HCA := Lib.hid (HC.out.trans hca)
      have HRA := Lib.hid (HR.out.chg hca (fun x => x))
      have HVA := Lib.hid (HVV.out.chg hca (fun x => x))
      have HOA := Lib.hid (HOO.out.new hca)
      have HSA := Lib.hid hca.size
      clear hwa hca hch hbr hbv hO
      by_cases hn : nm = 0
      · have hn' : (nm == 0) = true := beq_iff_eq.2 hn
        by_cases ho : op = 0
        · have ho' : (op == 0) = true := beq_iff_eq.2 ho
          have HST := Lib.hid (sweepN_hit (X := X) HFL.out (HNM.out.trans hn) (HOP.out.trans ho))
          have hok := sweepN_ok (ls := ls) HX.out f
          have htr := HOA.out.reads
          rw [hT'.out] at htr
          have hcv := sCutFile_any _ D d (sweepN X ls f) wa htr hok f hlt
          rw [hok.1] at hcv
          have HCV := Lib.hid hcv
          have HLV := Lib.hid HVA.out.lt
          clear hn ho hcv hok htr
          go_wp2_with fail
          rw [HWA.out]
          refine HCV.out.mono ?_
          rintro e w6 ⟨D6, d6, T6, rfl, hT6, hc6, hO6⟩
          have HT6 := Lib.hid hT6
          have HO6 := Lib.hid hO6
          have HC6 := Lib.hid hc6
          have HV6 := Lib.hid (HVA.out.chg hc6 (fun x => x))
          have v06 : w6.cell? ⟨V, 0, none⟩ = some (.slice D 8 d) := (HV6.out.cell _).trans rfl
          have vf6 := HV6.out.frozen 0
          clear hT6 hO6 hc6 v0 vf
          go_wp2_with fail
          go_roundw
          case rel =>
            have hcs : Chg (· = V) w6 (w6.setCell ⟨V, 0, none⟩ (.slice D6 8 d6)) := (Chg.refl (· = V) w6).setCell (p := ⟨V, 0, none⟩) (.inl rfl) _
            have hlv := HLV.out
            have hs1 := HS1.out
            have hs2 := HS2.out
            have hsa := HSA.out
            have hs6 := HC6.out.size
            have hss : (w6.setCell ⟨V, 0, none⟩ (.slice D6 8 d6)).heap.size = w6.heap.size := World.size_setCell _ _ _
            exact ⟨f + 1, T6, D6, d6, _, _, by omega, by go_num, (HCA.out.trans HC6.out).own hcs (by omega), (HRA.out.chg HC6.out (fun x => x)).chg hcs (by omega), HV6.out.set_ 0 _, Lib.hid (by rw [HT6.out, HST.out]), HO6.out.chg hcs (fun i h1 h2 h3 => by omega), by omega, by rw [hss]; omega, .inr hlv⟩
          case measure => simp [intOf]; omega
        · have ho' : (op == 0) = false := beq_eq_false_iff_ne.2 ho
          have HST := Lib.hid (sweepN_miss (X := X) HFL.out (fun hh => ho (HOP.out.symm.trans hh.2)))
          clear hn ho
          go_wp2_with fail
          go_roundw
          case rel =>
            (try rw [HWA.out])
            have hsa := HSA.out
            exact ⟨f + 1, T', D, d, B, E, by omega, by go_num, HCA.out, HRA.out, HVA.out, Lib.hid (by rw [hT'.out, HST.out]), HOA.out, hB, by omega, hBE⟩
          case measure => simp [intOf]; omega
      · have hn' : (nm == 0) = false := beq_eq_false_iff_ne.2 hn
        have HST := Lib.hid (sweepN_miss (X := X) HFL.out (fun hh => hn (HNM.out.symm.trans hh.1)))
        clear hn
        go_wp2_with fail
        go_roundw
        case rel =>
          (try rw [HWA.out])
          have hsa := HSA.out
          exact ⟨f + 1, T', D, d, B, E, by omega, by go_num, HCA.out, HRA.out, HVA.out, Lib.hid (by rw [hT'.out, HST.out]), HOA.out, hB, by omega, hBE⟩
        case measure => simp [intOf]; omega
    · obtain rfl : f = 8 := by omega
      have r0 : wo.cell? ⟨w.heap.size + 1, 0, none⟩ = some (.slice none 0 0) := (hbr.cell _).trans rfl
      have rf := hbr.frozen 0
      clear hch hbr hbv hO
      go_wp2_with fail
      (try simp only [Exit.inBlock, Exit.then])
      refine bodyPost_ret (v := .agg #[.slice D 8 d]) (by simp [results, Try.results40, go_sem, *]) rfl ?_
      have hcs : Chg (· = w.heap.size + 1) wo (wo.setCell ⟨w.heap.size + 1, 0, none⟩ (.slice D 8 d)) := (Chg.refl (· = w.heap.size + 1) wo).setCell (p := ⟨w.heap.size + 1, 0, none⟩) (.inl rfl) _
      have hss : (wo.setCell ⟨w.heap.size + 1, 0, none⟩ (.slice D 8 d)).heap.size = wo.heap.size := World.size_setCell _ _ _
      have hs1 := HS1.out
      have hTl : T'.length = 8 := by rw [← listsOf_length, hT'.out]; exact (sweepN_ok HX.out 8).1
      refine ⟨D, d, T', by rw [hTl], ?_, Lib.hid ⟨fun _ => hT'.out, fun hh => absurd ⟨HX.out, HK.out⟩ hh⟩, HCS0.out _ _ HC.out⟩
      exact (HOO.out.chg hcs (fun i h1 h2 h3 => by omega)).more (by omega) (by rw [hss]; omega)
end Go.Proofs.Ytbgepefdfioljaa
