/- The law FnWearVictim: the walk. -/
import Derived.Test.YtenbbkmbnpdfaaaYf
import Derived.Test.YtenbbkmbnpdfaaaYg
import Derived.Test.YtenbbkmbnpdfaaaVm
namespace Go.Proofs.Ytenbbkmbnpdfaaa
open Go.RowKit
theorem next_ne {b : Bk} (h : BkOk b) : (next b != 0) = decide (lead b.pages ≠ 0) := by
  by_cases hl : lead b.pages < 4
  · rw [next_free h hl]
    by_cases h0 : lead b.pages = 0
    · rw [h0]; rfl
    · rw [decide_eq_true h0, bne_iff_ne]; omega
  · rw [next_full h hl, decide_eq_true (by omega)]; rfl
theorem wearVictim_range (D : List Bk) (h : Hd) : -1 ≤ wearVictim D h ∧ wearVictim D h < (D.length : Int) := by
  unfold wearVictim
  split
  · exact bestTo_range _ _ _
  · omega
theorem wearVictim_good {D : List Bk} {h : Hd} {v : Nat} (hv : wearVictim D h = (v : Int)) : HeadsOk D h ∧ 5 < wearSpread D ∧ restGood D h v = true ∧ ∀ k, k < D.length → restGood D h k = true → wearAt D v ≤ wearAt D k := by
  unfold wearVictim at hv
  split at hv
  · rename_i hh
    have h0 : 0 ≤ bestTo (restGood D h) (wearAt D) D.length := by omega
    have h1 := bestTo_good _ _ _ h0
    have h2 := bestTo_least (restGood D h) (wearAt D) D.length
    rw [hv, Int.toNat_natCast] at h1 h2
    exact ⟨hh.1, hh.2, h1, fun k hk hg => (h2 k hk hg).2⟩
  · omega
set_option maxRecDepth 100000 in
set_option maxHeartbeats 4000000 in
theorem FnWearVictim_any (A : Option Addr) (c : Nat) (bs : List Nat) (w : World) (h : Rd (fun i => i < w.heap.size) w A (bs.map fun (b : Nat) => Value.int .u8 (b : Int))) (hx : ∀ b ∈ bs, b < 256) (hc : bs.length ≤ c) (_hm : c ≤ maxLen) :
    Calls Try.prog 10 #[.slice A bs.length c] w fun e w' => e = .returned (.bool true) ∧ Chg NoB w w' := by
  by_cases hl : 1048576 < bs.length
  · go_enter Try.func10, Try.ntmps10
    go_wp2
    go_ret
    exact ⟨rfl, Chg.refl _ _⟩
  have hl' : bs.length ≤ 1048576 := by omega
  have d9 : decide ((1048576 : Int) < (bs.length : Int)) = false := decide_eq_false (by omega)
  go_enter Try.func10, Try.ntmps10
  go_wp2_with fail
  refine (DrawWearVictim_any A c bs w h hx hc).mono ?_
  rintro e w1 ⟨A1, c1, D, ⟨a1, a2, a3⟩, rfl, hrd, hlc, h13, h4, hc1⟩
  have hca := (Chg.refl NoB w1).alloc (.cells #[.int .i64 a1, .int .i64 a2, .int .i64 a3] 38)
  have HB := Lib.hid (Blk.new w1 38 #[.int .i64 a1, .int .i64 a2, .int .i64 a3])
  have HR1 := Lib.hid (hrd.new hca)
  have HC1 := Lib.hid (hc1.trans hca)
  have HSM := Lib.hid (small13 h13 h4)
  clear hrd hc1 h hx hc h4 hca
  go_wp2_with fail
  refine (iWearVictim_any _ A1 c1 D ⟨a1, a2, a3⟩ _ HR1.out).mono ?_
  rintro e w2 ⟨rfl, hc2⟩
  have HC2 := Lib.hid (HC1.out.trans hc2)
  have HR2 := Lib.hid (HR1.out.new hc2)
  have hb2 := HB.out.chg hc2 (fun x => x)
  obtain ⟨V, hV⟩ : ∃ V, w1.heap.size = V := ⟨_, rfl⟩
  rw [hV] at hb2 ⊢
  have HB2 := Lib.hid hb2
  have x0 : w2.cell? ⟨V, 0, none⟩ = some (.int .i64 a1) := (hb2.cell _).trans rfl
  have x1 : w2.cell? ⟨V, 1, none⟩ = some (.int .i64 a2) := (hb2.cell _).trans rfl
  have x2 : w2.cell? ⟨V, 2, none⟩ = some (.int .i64 a3) := (hb2.cell _).trans rfl
  have HVR := Lib.hid (wearVictim_range D ⟨a1, a2, a3⟩)
  have HVG := Lib.hid (fun v (hv : wearVictim D ⟨a1, a2, a3⟩ = ((v : Nat) : Int)) => wearVictim_good hv)
  obtain ⟨z, hz⟩ : ∃ z, wearVictim D ⟨a1, a2, a3⟩ = z := ⟨_, rfl⟩
  have HZ := Lib.hid hz
  rw [hz] at HVR HVG ⊢
  clear hc2 hb2 hV hz HB HC1 HR1
  go_wp2_with fail
  refine (sWearVictim_any _ A1 c1 D ⟨a1, a2, a3⟩ _ HR2.out HSM.out).mono ?_
  rintro e w3 ⟨rfl, hc3⟩
  rw [HZ.out]
  have HC3 := Lib.hid (HC2.out.trans hc3)
  have HR3 := Lib.hid (HR2.out.new hc3)
  have HB3 := Lib.hid (HB2.out.chg hc3 (fun x => x))
  have hzz : (z != z) = false := by simp
  obtain ⟨hz0, hz1⟩ := HVR.out
  clear hc3 x0 x1 x2
  by_cases hneg : z < 0
  · obtain rfl : z = -1 := by omega
    go_wp2_with fail
    refine (alive_any _).mono ?_
    rintro e w' ⟨rfl, rfl⟩
    go_wp2
    go_ret
    exact ⟨rfl, HC3.out⟩
  obtain ⟨v, rfl⟩ := Int.eq_ofNat_of_zero_le (show 0 ≤ z by omega)
  obtain ⟨hho, hsp, hgv, hall⟩ := HVG.out v rfl
  have hv : v < D.length := by omega
  have HHO := Lib.hid hho
  have HSP := Lib.hid hsp
  have HGV := Lib.hid hgv
  have HALL := Lib.hid hall
  have hv0 : (0 : Int) ≤ (v : Int) := Int.natCast_nonneg _
  have d1 : decide ((v : Int) < 0) = false := decide_eq_false (by omega)
  have d2 : decide (D.length ≤ v) = false := decide_eq_false (by omega)
  clear hho hsp hgv hall hneg
  go_wp2_with fail
  go_loopw [6] (fun i wr => ∃ j : Nat, j ≤ D.length ∧ i = .int .i64 j ∧ Chg NoB w3 wr) (fun i _ => D.length - (intOf i).toNat)
  case atStart => exact ⟨0, Nat.zero_le _, rfl, Chg.refl _ _⟩
  case round =>
    obtain ⟨j, hj, rfl, hch⟩ := hrel
    have HCH := Lib.hid hch
    have hb := HB3.out.chg hch (fun x => x)
    have x0 : wr.cell? ⟨V, 0, none⟩ = some (.int .i64 a1) := (hb.cell _).trans rfl
    have x1 : wr.cell? ⟨V, 1, none⟩ = some (.int .i64 a2) := (hb.cell _).trans rfl
    have x2 : wr.cell? ⟨V, 2, none⟩ = some (.int .i64 a3) := (hb.cell _).trans rfl
    have hwv : D[v].wear = wearAt D v := by unfold wearAt; rw [getD_get _ _ hv]
    by_cases hlt : j < D.length
    case neg =>
      have hbk := HHO.out.1.2 v hv
      obtain ⟨b, o, Av, cv, rfl, -, y0, y1, hrv, -⟩ := (HR3.out.new hch) v hv
      have hgv : lead D[v].pages ≠ 0 ∧ ¬ isHead ⟨a1, a2, a3⟩ (v : Int) := by
        have h0 := HGV.out
        unfold restGood at h0
        rw [getD_get _ _ hv] at h0
        simpa using h0
      have k1 := hgv.1
      have k2 : (v : Int) ≠ a1 := fun q => hgv.2 (.inl q)
      have k3 : (v : Int) ≠ a2 := fun q => hgv.2 (.inr (.inl q))
      have k4 : (v : Int) ≠ a3 := fun q => hgv.2 (.inr (.inr q))
      clear hgv
      have g1 : (next D[v] != 0) = true := by rw [next_ne hbk]; exact decide_eq_true k1
      have g2 : ((v : Int) != a1) = true := by rw [bne_iff_ne]; exact k2
      have g3 : ((v : Int) != a2) = true := by rw [bne_iff_ne]; exact k3
      have g4 : ((v : Int) != a3) = true := by rw [bne_iff_ne]; exact k4
      have g5 := HSP.out
      have hlt' : ¬ ((j : Int) < (D.length : Int)) := by omega
      have hv2 : (v : Int) < (D.length : Int) := by omega
      have HBB := Lib.hid hb
      have HRV := Lib.hid hrv
      have HRW := Lib.hid (HR3.out.new hch)
      rw [hwv] at y0
      have HWV := Lib.hid hwv
      clear hch hb hrv hbk k1 k2 k3 k4 x0 x1 x2 hwv
      go_wp2_with fail
      refine ((HWV.out ▸ iBlockNext_any _ Av cv D[v] _ HRV.out)).mono ?_
      rintro e w4 ⟨rfl, hc4⟩
      have hb := HBB.out.chg hc4 (fun x => x)
      have x0 : w4.cell? ⟨V, 0, none⟩ = some (.int .i64 a1) := (hb.cell _).trans rfl
      have x1 : w4.cell? ⟨V, 1, none⟩ = some (.int .i64 a2) := (hb.cell _).trans rfl
      have x2 : w4.cell? ⟨V, 2, none⟩ = some (.int .i64 a3) := (hb.cell _).trans rfl
      have HC4 := Lib.hid (HCH.out.trans hc4)
      have HR4 := Lib.hid (HRW.out.new hc4)
      clear hc4 hb y0 y1
      go_wp2_with fail
      refine (iWearSpread_any _ _ c1 D _ HR4.out).mono ?_
      rintro e w5 ⟨rfl, hc5⟩
      have HC5 := Lib.hid (HC3.out.trans (HC4.out.trans hc5))
      clear hc5
      go_wp2
      go_ret
      exact ⟨rfl, HC5.out⟩
    have hbk := HHO.out.1.2 j hlt
    obtain ⟨b, o, Av, cv, rfl, -, y0, -, -, -⟩ := (HR3.out.new hch) v hv
    obtain ⟨b', o', Aj, cj, e, -, z0, z1, hrj, -⟩ := (HR3.out.new hch) j hlt
    injection e with e
    injection e with e1 e2
    subst e1 e2
    have hwj : D[j].wear = wearAt D j := by unfold wearAt; rw [getD_get _ _ hlt]
    rw [hwv] at y0
    have HBN := Lib.hid (show ∀ wq, Chg NoB wr wq → Calls Try.prog 37 #[.agg #[.int .i64 D[j].wear, .slice Aj D[j].pages.length cj]] wq fun e w' => e = .returned (.int .i64 (next D[j])) ∧ Chg NoB wq w' from fun wq hq => iBlockNext_any _ Aj cj D[j] wq (hrj.new hq))
    have hi0 : (0 : Int) ≤ (j : Int) := Int.natCast_nonneg _
    have hi1 : (j : Int) < (D.length : Int) := by omega
    have hv2 : (v : Int) < (D.length : Int) := by omega
    have HNE := Lib.hid (next_ne hbk)
    clear hch hb hrj hbk
    by_cases h1 : lead D[j].pages = 0
    · have g1 : (next D[j] != 0) = false := by rw [HNE.out]; exact decide_eq_false (fun hh => hh h1)
      go_wp2_with fail
      refine wp_region_ro (gl := [(6, some false), (12, some false), (18, some false), (24, some false)]) (WInv := fun _ _ w5 => Chg NoB wr w5) (R := Chg NoB) (Post := PV [some (.slice (some ⟨b, o, none⟩) D.length c1), some (.int .i64 (j : Int)), some (.pointer (some ⟨b, o + j * 2, none⟩)), some (.agg #[.int .i64 D[j].wear, .slice Aj D[j].pages.length cj]), some (.int .i64 (next D[j])), some (.bool false), some (.bool false), some (undef), some (undef), some (undef), some (undef), some (.bool false), some (.bool false), some (undef), some (undef), some (undef), some (undef), some (.bool false), some (.bool false), some (undef), some (undef), some (undef), some (undef), some (.bool false), some (.bool false), some (undef), some (undef), some (undef), some (undef), some (undef), some (undef), some (undef), some (undef), some (undef), some (undef), some (undef), some (.bool false)]) (by kernel_rfl) (by kernel_rfl) (pv_guard (by intro p hp; simp only [List.mem_cons, List.not_mem_nil, or_false] at hp; rcases hp with rfl | rfl | rfl | rfl <;> rfl)) (fun _ _ _ _ h _ _ => h) (fun _ _ _ _ h _ => h) (Chg.refl _ _).drew ⟨?_, ?_, ?_, ?_, ?_, ?_, ?_, ?_, ?_, ?_, ?_, ?_, ?_, ?_, ?_, ?_, ?_, ?_, ?_, ?_, ?_, ?_, ?_, ?_, ?_, ?_, ?_, ?_, ?_, ?_, ?_, ?_, ?_, ?_, ?_, ?_, ?_, trivial⟩ ?_
      · rintro kc m a w5 hkc hch hm hn
        obtain ⟨e1, -⟩ := hn
        replace e1 : a.tmps[3]?.getD undef = .slice (some ⟨b, o, none⟩) D.length c1 := e1
        exact rg_val (v := .slice (some ⟨b, o, none⟩) D.length c1) (by simp [execOp, go_sem, e1]) rfl hch (Chg.refl _ _) rfl
      · rintro kc m a w5 hkc hch hm hn
        obtain ⟨e1, -⟩ := hn
        replace e1 : a.tmps[6]?.getD undef = .int .i64 (j : Int) := e1
        exact rg_val (v := .int .i64 (j : Int)) (by simp [execOp, go_sem, e1]) rfl hch (Chg.refl _ _) rfl
      · rintro kc m a w5 hkc hch hm hn
        obtain ⟨⟨_, e1, _, rfl⟩, ⟨_, e2, _, rfl⟩, -⟩ := hn
        exact rg_val (v := .pointer (some ⟨b, o + j * 2, none⟩)) (by simp [execOp, go_sem, e1, e2]; exact fun hh => absurd hh (by omega)) rfl hch (Chg.refl _ _) rfl
      · rintro kc m a w5 hkc hch hm hn
        obtain ⟨⟨_, e1, _, rfl⟩, -⟩ := hn
        have c0 := Chg.cell hch z0 (fun x => x)
        have c1 := Chg.cell hch z1 (fun x => x)
        exact rg_val (v := .agg #[.int .i64 D[j].wear, .slice Aj D[j].pages.length cj]) (by simp [execOp, go_sem, e1, c0, c1]) rfl hch (Chg.refl _ _) rfl
      · rintro kc m a w5 hkc hch hm hn
        obtain ⟨⟨_, e1, _, rfl⟩, -⟩ := hn
        refine rg_call (f := 37) (args := #[.agg #[.int .i64 D[j].wear, .slice Aj D[j].pages.length cj]]) (by simp [go_sem, e1]) rfl ?_
        refine (HBN.out _ hch).mono ?_
        rintro e w6 ⟨rfl, hc6⟩
        exact ⟨_, rfl, hch.trans hc6, hc6, rfl⟩
      · rintro kc m a w5 hkc hch hm hn
        obtain ⟨⟨_, e1, _, rfl⟩, -⟩ := hn
        exact rg_val (v := .bool false) (by simp [execOp, go_sem, e1, g1]) rfl hch (Chg.refl _ _) rfl
      · rintro kc m a w5 hkc hch hm hn
        obtain ⟨⟨_, e1, _, rfl⟩, -⟩ := hn
        exact rg_val (v := .bool false) (by simp [execOp, go_sem, e1]) rfl hch (Chg.refl _ _) rfl
      · rintro kc m w5 hkc hch hm
        exact ⟨hch, Chg.refl _ _, rfl⟩
      · rintro kc m w5 hkc hch hm
        exact ⟨hch, Chg.refl _ _, rfl⟩
      · rintro kc m w5 hkc hch hm
        exact ⟨hch, Chg.refl _ _, rfl⟩
      · rintro kc m w5 hkc hch hm
        exact ⟨hch, Chg.refl _ _, rfl⟩
      · rintro kc m a w5 hkc hch hm hn
        obtain ⟨⟨_, e1, _, rfl⟩, ⟨_, e2, _, rfl⟩, -⟩ := hn
        exact rg_val (v := .bool false) (by simp [execOp, go_sem, e1, e2]) rfl hch (Chg.refl _ _) rfl
      · rintro kc m a w5 hkc hch hm hn
        obtain ⟨⟨_, e1, _, rfl⟩, -⟩ := hn
        exact rg_val (v := .bool false) (by simp [execOp, go_sem, e1]) rfl hch (Chg.refl _ _) rfl
      · rintro kc m w5 hkc hch hm
        exact ⟨hch, Chg.refl _ _, rfl⟩
      · rintro kc m w5 hkc hch hm
        exact ⟨hch, Chg.refl _ _, rfl⟩
      · rintro kc m w5 hkc hch hm
        exact ⟨hch, Chg.refl _ _, rfl⟩
      · rintro kc m w5 hkc hch hm
        exact ⟨hch, Chg.refl _ _, rfl⟩
      · rintro kc m a w5 hkc hch hm hn
        obtain ⟨⟨_, e1, _, rfl⟩, ⟨_, e2, _, rfl⟩, -⟩ := hn
        exact rg_val (v := .bool false) (by simp [execOp, go_sem, e1, e2]) rfl hch (Chg.refl _ _) rfl
      · rintro kc m a w5 hkc hch hm hn
        obtain ⟨⟨_, e1, _, rfl⟩, -⟩ := hn
        exact rg_val (v := .bool false) (by simp [execOp, go_sem, e1]) rfl hch (Chg.refl _ _) rfl
      · rintro kc m w5 hkc hch hm
        exact ⟨hch, Chg.refl _ _, rfl⟩
      · rintro kc m w5 hkc hch hm
        exact ⟨hch, Chg.refl _ _, rfl⟩
      · rintro kc m w5 hkc hch hm
        exact ⟨hch, Chg.refl _ _, rfl⟩
      · rintro kc m w5 hkc hch hm
        exact ⟨hch, Chg.refl _ _, rfl⟩
      · rintro kc m a w5 hkc hch hm hn
        obtain ⟨⟨_, e1, _, rfl⟩, ⟨_, e2, _, rfl⟩, -⟩ := hn
        exact rg_val (v := .bool false) (by simp [execOp, go_sem, e1, e2]) rfl hch (Chg.refl _ _) rfl
      · rintro kc m a w5 hkc hch hm hn
        obtain ⟨⟨_, e1, _, rfl⟩, -⟩ := hn
        exact rg_val (v := .bool false) (by simp [execOp, go_sem, e1]) rfl hch (Chg.refl _ _) rfl
      · rintro kc m w5 hkc hch hm
        exact ⟨hch, Chg.refl _ _, rfl⟩
      · rintro kc m w5 hkc hch hm
        exact ⟨hch, Chg.refl _ _, rfl⟩
      · rintro kc m w5 hkc hch hm
        exact ⟨hch, Chg.refl _ _, rfl⟩
      · rintro kc m w5 hkc hch hm
        exact ⟨hch, Chg.refl _ _, rfl⟩
      · rintro kc m w5 hkc hch hm
        exact ⟨hch, Chg.refl _ _, rfl⟩
      · rintro kc m w5 hkc hch hm
        exact ⟨hch, Chg.refl _ _, rfl⟩
      · rintro kc m w5 hkc hch hm
        exact ⟨hch, Chg.refl _ _, rfl⟩
      · rintro kc m w5 hkc hch hm
        exact ⟨hch, Chg.refl _ _, rfl⟩
      · rintro kc m w5 hkc hch hm
        exact ⟨hch, Chg.refl _ _, rfl⟩
      · rintro kc m w5 hkc hch hm
        exact ⟨hch, Chg.refl _ _, rfl⟩
      · rintro kc m w5 hkc hch hm
        exact ⟨hch, Chg.refl _ _, rfl⟩
      · rintro kc m a w5 hkc hch hm hn
        obtain ⟨⟨_, e1, _, rfl⟩, ⟨_, e2, _, rfl⟩, -⟩ := hn
        exact rg_val (v := .bool false) (by simp [execOp, go_sem, e1, e2]) rfl hch (Chg.refl _ _) rfl
      rintro m w2 hc2
      simp only [AllVals]
      rintro v0 _ p0 v1 _ p1 v2 _ p2 v3 _ p3 v4 _ p4 v5 _ p5 v6 _ p6 v7 _ p7 v8 _ p8 v9 _ p9 v10 _ p10 v11 _ p11 v12 _ p12 v13 _ p13 v14 _ p14 v15 _ p15 v16 _ p16 v17 _ p17 v18 _ p18 v19 _ p19 v20 _ p20 v21 _ p21 v22 _ p22 v23 _ p23 v24 _ p24 v25 _ p25 v26 _ p26 v27 _ p27 v28 _ p28 v29 _ p29 v30 _ p30 v31 _ p31 v32 _ p32 v33 _ p33 v34 _ p34 v35 _ p35 v36 _ p36
      obtain rfl := p36
      clear p0 p1 p2 p3 p4 p5 p6 p7 p8 p9 p10 p11 p12 p13 p14 p15 p16 p17 p18 p19 p20 p21 p22 p23 p24 p25 p26 p27 p28 p29 p30 p31 p32 p33 p34 p35
      simp only [Act.put, List.setIfInBounds_toArray, List.set_cons_succ, List.set_cons_zero]
      have HC2 := Lib.hid hc2
      clear hc2
      go_wp2
      go_roundw
      case rel => exact ⟨j + 1, by omega, by go_num, HCH.out.trans HC2.out⟩
      case measure => simp [intOf]; omega
    have g1 : (next D[j] != 0) = true := by rw [HNE.out]; exact decide_eq_true h1
    by_cases h2 : (j : Int) = a1
    · have g2 : ((j : Int) != a1) = false := by rw [h2]; simp
      clear h2
      go_wp2_with fail
      refine wp_region_ro (gl := [(6, some true), (12, some false), (18, some false), (24, some false)]) (WInv := fun _ _ w5 => Chg NoB wr w5) (R := Chg NoB) (Post := PV [some (.slice (some ⟨b, o, none⟩) D.length c1), some (.int .i64 (j : Int)), some (.pointer (some ⟨b, o + j * 2, none⟩)), some (.agg #[.int .i64 D[j].wear, .slice Aj D[j].pages.length cj]), some (.int .i64 (next D[j])), some (.bool true), some (.bool true), some (.int .i64 (j : Int)), some (.pointer (some ⟨V, 0, none⟩)), some (.int .i64 a1), some (.bool false), some (.bool false), some (.bool false), some (undef), some (undef), some (undef), some (undef), some (.bool false), some (.bool false), some (undef), some (undef), some (undef), some (undef), some (.bool false), some (.bool false), some (undef), some (undef), some (undef), some (undef), some (undef), some (undef), some (undef), some (undef), some (undef), some (undef), some (undef), some (.bool false)]) (by kernel_rfl) (by kernel_rfl) (pv_guard (by intro p hp; simp only [List.mem_cons, List.not_mem_nil, or_false] at hp; rcases hp with rfl | rfl | rfl | rfl <;> rfl)) (fun _ _ _ _ h _ _ => h) (fun _ _ _ _ h _ => h) (Chg.refl _ _).drew ⟨?_, ?_, ?_, ?_, ?_, ?_, ?_, ?_, ?_, ?_, ?_, ?_, ?_, ?_, ?_, ?_, ?_, ?_, ?_, ?_, ?_, ?_, ?_, ?_, ?_, ?_, ?_, ?_, ?_, ?_, ?_, ?_, ?_, ?_, ?_, ?_, ?_, trivial⟩ ?_
      · rintro kc m a w5 hkc hch hm hn
        obtain ⟨e1, -⟩ := hn
        replace e1 : a.tmps[3]?.getD undef = .slice (some ⟨b, o, none⟩) D.length c1 := e1
        exact rg_val (v := .slice (some ⟨b, o, none⟩) D.length c1) (by simp [execOp, go_sem, e1]) rfl hch (Chg.refl _ _) rfl
      · rintro kc m a w5 hkc hch hm hn
        obtain ⟨e1, -⟩ := hn
        replace e1 : a.tmps[6]?.getD undef = .int .i64 (j : Int) := e1
        exact rg_val (v := .int .i64 (j : Int)) (by simp [execOp, go_sem, e1]) rfl hch (Chg.refl _ _) rfl
      · rintro kc m a w5 hkc hch hm hn
        obtain ⟨⟨_, e1, _, rfl⟩, ⟨_, e2, _, rfl⟩, -⟩ := hn
        exact rg_val (v := .pointer (some ⟨b, o + j * 2, none⟩)) (by simp [execOp, go_sem, e1, e2]; exact fun hh => absurd hh (by omega)) rfl hch (Chg.refl _ _) rfl
      · rintro kc m a w5 hkc hch hm hn
        obtain ⟨⟨_, e1, _, rfl⟩, -⟩ := hn
        have c0 := Chg.cell hch z0 (fun x => x)
        have c1 := Chg.cell hch z1 (fun x => x)
        exact rg_val (v := .agg #[.int .i64 D[j].wear, .slice Aj D[j].pages.length cj]) (by simp [execOp, go_sem, e1, c0, c1]) rfl hch (Chg.refl _ _) rfl
      · rintro kc m a w5 hkc hch hm hn
        obtain ⟨⟨_, e1, _, rfl⟩, -⟩ := hn
        refine rg_call (f := 37) (args := #[.agg #[.int .i64 D[j].wear, .slice Aj D[j].pages.length cj]]) (by simp [go_sem, e1]) rfl ?_
        refine (HBN.out _ hch).mono ?_
        rintro e w6 ⟨rfl, hc6⟩
        exact ⟨_, rfl, hch.trans hc6, hc6, rfl⟩
      · rintro kc m a w5 hkc hch hm hn
        obtain ⟨⟨_, e1, _, rfl⟩, -⟩ := hn
        exact rg_val (v := .bool true) (by simp [execOp, go_sem, e1, g1]) rfl hch (Chg.refl _ _) rfl
      · rintro kc m a w5 hkc hch hm hn
        obtain ⟨⟨_, e1, _, rfl⟩, -⟩ := hn
        exact rg_val (v := .bool true) (by simp [execOp, go_sem, e1]) rfl hch (Chg.refl _ _) rfl
      · rintro kc m a w5 hkc hch hm hn
        obtain ⟨e1, -⟩ := hn
        replace e1 : a.tmps[6]?.getD undef = .int .i64 (j : Int) := e1
        exact rg_val (v := .int .i64 (j : Int)) (by simp [execOp, go_sem, e1]) rfl hch (Chg.refl _ _) rfl
      · rintro kc m a w5 hkc hch hm hn
        obtain ⟨e1, -⟩ := hn
        replace e1 : a.tmps[4]?.getD undef = .pointer (some ⟨V, 0, none⟩) := e1
        exact rg_val (v := .pointer (some ⟨V, 0, none⟩)) (by simp [execOp, go_sem, e1]) rfl hch (Chg.refl _ _) rfl
      · rintro kc m a w5 hkc hch hm hn
        obtain ⟨⟨_, e1, _, rfl⟩, -⟩ := hn
        have c0 := Chg.cell hch x0 (fun x => x)
        exact rg_val (v := .int .i64 a1) (by simp [execOp, go_sem, e1, c0]) rfl hch (Chg.refl _ _) rfl
      · rintro kc m a w5 hkc hch hm hn
        obtain ⟨⟨_, e1, _, rfl⟩, ⟨_, e2, _, rfl⟩, -⟩ := hn
        exact rg_val (v := .bool false) (by simp [execOp, go_sem, e1, e2, g2]) rfl hch (Chg.refl _ _) rfl
      · rintro kc m a w5 hkc hch hm hn
        obtain ⟨⟨_, e1, _, rfl⟩, ⟨_, e2, _, rfl⟩, -⟩ := hn
        exact rg_val (v := .bool false) (by simp [execOp, go_sem, e1, e2]) rfl hch (Chg.refl _ _) rfl
      · rintro kc m a w5 hkc hch hm hn
        obtain ⟨⟨_, e1, _, rfl⟩, -⟩ := hn
        exact rg_val (v := .bool false) (by simp [execOp, go_sem, e1]) rfl hch (Chg.refl _ _) rfl
      · rintro kc m w5 hkc hch hm
        exact ⟨hch, Chg.refl _ _, rfl⟩
      · rintro kc m w5 hkc hch hm
        exact ⟨hch, Chg.refl _ _, rfl⟩
      · rintro kc m w5 hkc hch hm
        exact ⟨hch, Chg.refl _ _, rfl⟩
      · rintro kc m w5 hkc hch hm
        exact ⟨hch, Chg.refl _ _, rfl⟩
      · rintro kc m a w5 hkc hch hm hn
        obtain ⟨⟨_, e1, _, rfl⟩, ⟨_, e2, _, rfl⟩, -⟩ := hn
        exact rg_val (v := .bool false) (by simp [execOp, go_sem, e1, e2]) rfl hch (Chg.refl _ _) rfl
      · rintro kc m a w5 hkc hch hm hn
        obtain ⟨⟨_, e1, _, rfl⟩, -⟩ := hn
        exact rg_val (v := .bool false) (by simp [execOp, go_sem, e1]) rfl hch (Chg.refl _ _) rfl
      · rintro kc m w5 hkc hch hm
        exact ⟨hch, Chg.refl _ _, rfl⟩
      · rintro kc m w5 hkc hch hm
        exact ⟨hch, Chg.refl _ _, rfl⟩
      · rintro kc m w5 hkc hch hm
        exact ⟨hch, Chg.refl _ _, rfl⟩
      · rintro kc m w5 hkc hch hm
        exact ⟨hch, Chg.refl _ _, rfl⟩
      · rintro kc m a w5 hkc hch hm hn
        obtain ⟨⟨_, e1, _, rfl⟩, ⟨_, e2, _, rfl⟩, -⟩ := hn
        exact rg_val (v := .bool false) (by simp [execOp, go_sem, e1, e2]) rfl hch (Chg.refl _ _) rfl
      · rintro kc m a w5 hkc hch hm hn
        obtain ⟨⟨_, e1, _, rfl⟩, -⟩ := hn
        exact rg_val (v := .bool false) (by simp [execOp, go_sem, e1]) rfl hch (Chg.refl _ _) rfl
      · rintro kc m w5 hkc hch hm
        exact ⟨hch, Chg.refl _ _, rfl⟩
      · rintro kc m w5 hkc hch hm
        exact ⟨hch, Chg.refl _ _, rfl⟩
      · rintro kc m w5 hkc hch hm
        exact ⟨hch, Chg.refl _ _, rfl⟩
      · rintro kc m w5 hkc hch hm
        exact ⟨hch, Chg.refl _ _, rfl⟩
      · rintro kc m w5 hkc hch hm
        exact ⟨hch, Chg.refl _ _, rfl⟩
      · rintro kc m w5 hkc hch hm
        exact ⟨hch, Chg.refl _ _, rfl⟩
      · rintro kc m w5 hkc hch hm
        exact ⟨hch, Chg.refl _ _, rfl⟩
      · rintro kc m w5 hkc hch hm
        exact ⟨hch, Chg.refl _ _, rfl⟩
      · rintro kc m w5 hkc hch hm
        exact ⟨hch, Chg.refl _ _, rfl⟩
      · rintro kc m w5 hkc hch hm
        exact ⟨hch, Chg.refl _ _, rfl⟩
      · rintro kc m w5 hkc hch hm
        exact ⟨hch, Chg.refl _ _, rfl⟩
      · rintro kc m a w5 hkc hch hm hn
        obtain ⟨⟨_, e1, _, rfl⟩, ⟨_, e2, _, rfl⟩, -⟩ := hn
        exact rg_val (v := .bool false) (by simp [execOp, go_sem, e1, e2]) rfl hch (Chg.refl _ _) rfl
      rintro m w2 hc2
      simp only [AllVals]
      rintro v0 _ p0 v1 _ p1 v2 _ p2 v3 _ p3 v4 _ p4 v5 _ p5 v6 _ p6 v7 _ p7 v8 _ p8 v9 _ p9 v10 _ p10 v11 _ p11 v12 _ p12 v13 _ p13 v14 _ p14 v15 _ p15 v16 _ p16 v17 _ p17 v18 _ p18 v19 _ p19 v20 _ p20 v21 _ p21 v22 _ p22 v23 _ p23 v24 _ p24 v25 _ p25 v26 _ p26 v27 _ p27 v28 _ p28 v29 _ p29 v30 _ p30 v31 _ p31 v32 _ p32 v33 _ p33 v34 _ p34 v35 _ p35 v36 _ p36
      obtain rfl := p36
      clear p0 p1 p2 p3 p4 p5 p6 p7 p8 p9 p10 p11 p12 p13 p14 p15 p16 p17 p18 p19 p20 p21 p22 p23 p24 p25 p26 p27 p28 p29 p30 p31 p32 p33 p34 p35
      simp only [Act.put, List.setIfInBounds_toArray, List.set_cons_succ, List.set_cons_zero]
      have HC2 := Lib.hid hc2
      clear hc2
      go_wp2
      go_roundw
      case rel => exact ⟨j + 1, by omega, by go_num, HCH.out.trans HC2.out⟩
      case measure => simp [intOf]; omega
    have g2 : ((j : Int) != a1) = true := by rw [bne_iff_ne]; exact h2
    by_cases h3 : (j : Int) = a2
    · have g3 : ((j : Int) != a2) = false := by rw [h3]; simp
      clear h3
      go_wp2_with fail
      refine wp_region_ro (gl := [(6, some true), (12, some true), (18, some false), (24, some false)]) (WInv := fun _ _ w5 => Chg NoB wr w5) (R := Chg NoB) (Post := PV [some (.slice (some ⟨b, o, none⟩) D.length c1), some (.int .i64 (j : Int)), some (.pointer (some ⟨b, o + j * 2, none⟩)), some (.agg #[.int .i64 D[j].wear, .slice Aj D[j].pages.length cj]), some (.int .i64 (next D[j])), some (.bool true), some (.bool true), some (.int .i64 (j : Int)), some (.pointer (some ⟨V, 0, none⟩)), some (.int .i64 a1), some (.bool true), some (.bool true), some (.bool true), some (.int .i64 (j : Int)), some (.pointer (some ⟨V, 1, none⟩)), some (.int .i64 a2), some (.bool false), some (.bool false), some (.bool false), some (undef), some (undef), some (undef), some (undef), some (.bool false), some (.bool false), some (undef), some (undef), some (undef), some (undef), some (undef), some (undef), some (undef), some (undef), some (undef), some (undef), some (undef), some (.bool false)]) (by kernel_rfl) (by kernel_rfl) (pv_guard (by intro p hp; simp only [List.mem_cons, List.not_mem_nil, or_false] at hp; rcases hp with rfl | rfl | rfl | rfl <;> rfl)) (fun _ _ _ _ h _ _ => h) (fun _ _ _ _ h _ => h) (Chg.refl _ _).drew ⟨?_, ?_, ?_, ?_, ?_, ?_, ?_, ?_, ?_, ?_, ?_, ?_, ?_, ?_, ?_, ?_, ?_, ?_, ?_, ?_, ?_, ?_, ?_, ?_, ?_, ?_, ?_, ?_, ?_, ?_, ?_, ?_, ?_, ?_, ?_, ?_, ?_, trivial⟩ ?_
      · rintro kc m a w5 hkc hch hm hn
        obtain ⟨e1, -⟩ := hn
        replace e1 : a.tmps[3]?.getD undef = .slice (some ⟨b, o, none⟩) D.length c1 := e1
        exact rg_val (v := .slice (some ⟨b, o, none⟩) D.length c1) (by simp [execOp, go_sem, e1]) rfl hch (Chg.refl _ _) rfl
      · rintro kc m a w5 hkc hch hm hn
        obtain ⟨e1, -⟩ := hn
        replace e1 : a.tmps[6]?.getD undef = .int .i64 (j : Int) := e1
        exact rg_val (v := .int .i64 (j : Int)) (by simp [execOp, go_sem, e1]) rfl hch (Chg.refl _ _) rfl
      · rintro kc m a w5 hkc hch hm hn
        obtain ⟨⟨_, e1, _, rfl⟩, ⟨_, e2, _, rfl⟩, -⟩ := hn
        exact rg_val (v := .pointer (some ⟨b, o + j * 2, none⟩)) (by simp [execOp, go_sem, e1, e2]; exact fun hh => absurd hh (by omega)) rfl hch (Chg.refl _ _) rfl
      · rintro kc m a w5 hkc hch hm hn
        obtain ⟨⟨_, e1, _, rfl⟩, -⟩ := hn
        have c0 := Chg.cell hch z0 (fun x => x)
        have c1 := Chg.cell hch z1 (fun x => x)
        exact rg_val (v := .agg #[.int .i64 D[j].wear, .slice Aj D[j].pages.length cj]) (by simp [execOp, go_sem, e1, c0, c1]) rfl hch (Chg.refl _ _) rfl
      · rintro kc m a w5 hkc hch hm hn
        obtain ⟨⟨_, e1, _, rfl⟩, -⟩ := hn
        refine rg_call (f := 37) (args := #[.agg #[.int .i64 D[j].wear, .slice Aj D[j].pages.length cj]]) (by simp [go_sem, e1]) rfl ?_
        refine (HBN.out _ hch).mono ?_
        rintro e w6 ⟨rfl, hc6⟩
        exact ⟨_, rfl, hch.trans hc6, hc6, rfl⟩
      · rintro kc m a w5 hkc hch hm hn
        obtain ⟨⟨_, e1, _, rfl⟩, -⟩ := hn
        exact rg_val (v := .bool true) (by simp [execOp, go_sem, e1, g1]) rfl hch (Chg.refl _ _) rfl
      · rintro kc m a w5 hkc hch hm hn
        obtain ⟨⟨_, e1, _, rfl⟩, -⟩ := hn
        exact rg_val (v := .bool true) (by simp [execOp, go_sem, e1]) rfl hch (Chg.refl _ _) rfl
      · rintro kc m a w5 hkc hch hm hn
        obtain ⟨e1, -⟩ := hn
        replace e1 : a.tmps[6]?.getD undef = .int .i64 (j : Int) := e1
        exact rg_val (v := .int .i64 (j : Int)) (by simp [execOp, go_sem, e1]) rfl hch (Chg.refl _ _) rfl
      · rintro kc m a w5 hkc hch hm hn
        obtain ⟨e1, -⟩ := hn
        replace e1 : a.tmps[4]?.getD undef = .pointer (some ⟨V, 0, none⟩) := e1
        exact rg_val (v := .pointer (some ⟨V, 0, none⟩)) (by simp [execOp, go_sem, e1]) rfl hch (Chg.refl _ _) rfl
      · rintro kc m a w5 hkc hch hm hn
        obtain ⟨⟨_, e1, _, rfl⟩, -⟩ := hn
        have c0 := Chg.cell hch x0 (fun x => x)
        exact rg_val (v := .int .i64 a1) (by simp [execOp, go_sem, e1, c0]) rfl hch (Chg.refl _ _) rfl
      · rintro kc m a w5 hkc hch hm hn
        obtain ⟨⟨_, e1, _, rfl⟩, ⟨_, e2, _, rfl⟩, -⟩ := hn
        exact rg_val (v := .bool true) (by simp [execOp, go_sem, e1, e2, g2]) rfl hch (Chg.refl _ _) rfl
      · rintro kc m a w5 hkc hch hm hn
        obtain ⟨⟨_, e1, _, rfl⟩, ⟨_, e2, _, rfl⟩, -⟩ := hn
        exact rg_val (v := .bool true) (by simp [execOp, go_sem, e1, e2]) rfl hch (Chg.refl _ _) rfl
      · rintro kc m a w5 hkc hch hm hn
        obtain ⟨⟨_, e1, _, rfl⟩, -⟩ := hn
        exact rg_val (v := .bool true) (by simp [execOp, go_sem, e1]) rfl hch (Chg.refl _ _) rfl
      · rintro kc m a w5 hkc hch hm hn
        obtain ⟨e1, -⟩ := hn
        replace e1 : a.tmps[6]?.getD undef = .int .i64 (j : Int) := e1
        exact rg_val (v := .int .i64 (j : Int)) (by simp [execOp, go_sem, e1]) rfl hch (Chg.refl _ _) rfl
      · rintro kc m a w5 hkc hch hm hn
        obtain ⟨e1, -⟩ := hn
        replace e1 : a.tmps[4]?.getD undef = .pointer (some ⟨V, 0, none⟩) := e1
        exact rg_val (v := .pointer (some ⟨V, 1, none⟩)) (by simp [execOp, go_sem, e1]) rfl hch (Chg.refl _ _) rfl
      · rintro kc m a w5 hkc hch hm hn
        obtain ⟨⟨_, e1, _, rfl⟩, -⟩ := hn
        have c0 := Chg.cell hch x1 (fun x => x)
        exact rg_val (v := .int .i64 a2) (by simp [execOp, go_sem, e1, c0]) rfl hch (Chg.refl _ _) rfl
      · rintro kc m a w5 hkc hch hm hn
        obtain ⟨⟨_, e1, _, rfl⟩, ⟨_, e2, _, rfl⟩, -⟩ := hn
        exact rg_val (v := .bool false) (by simp [execOp, go_sem, e1, e2, g3]) rfl hch (Chg.refl _ _) rfl
      · rintro kc m a w5 hkc hch hm hn
        obtain ⟨⟨_, e1, _, rfl⟩, ⟨_, e2, _, rfl⟩, -⟩ := hn
        exact rg_val (v := .bool false) (by simp [execOp, go_sem, e1, e2]) rfl hch (Chg.refl _ _) rfl
      · rintro kc m a w5 hkc hch hm hn
        obtain ⟨⟨_, e1, _, rfl⟩, -⟩ := hn
        exact rg_val (v := .bool false) (by simp [execOp, go_sem, e1]) rfl hch (Chg.refl _ _) rfl
      · rintro kc m w5 hkc hch hm
        exact ⟨hch, Chg.refl _ _, rfl⟩
      · rintro kc m w5 hkc hch hm
        exact ⟨hch, Chg.refl _ _, rfl⟩
      · rintro kc m w5 hkc hch hm
        exact ⟨hch, Chg.refl _ _, rfl⟩
      · rintro kc m w5 hkc hch hm
        exact ⟨hch, Chg.refl _ _, rfl⟩
      · rintro kc m a w5 hkc hch hm hn
        obtain ⟨⟨_, e1, _, rfl⟩, ⟨_, e2, _, rfl⟩, -⟩ := hn
        exact rg_val (v := .bool false) (by simp [execOp, go_sem, e1, e2]) rfl hch (Chg.refl _ _) rfl
      · rintro kc m a w5 hkc hch hm hn
        obtain ⟨⟨_, e1, _, rfl⟩, -⟩ := hn
        exact rg_val (v := .bool false) (by simp [execOp, go_sem, e1]) rfl hch (Chg.refl _ _) rfl
      · rintro kc m w5 hkc hch hm
        exact ⟨hch, Chg.refl _ _, rfl⟩
      · rintro kc m w5 hkc hch hm
        exact ⟨hch, Chg.refl _ _, rfl⟩
      · rintro kc m w5 hkc hch hm
        exact ⟨hch, Chg.refl _ _, rfl⟩
      · rintro kc m w5 hkc hch hm
        exact ⟨hch, Chg.refl _ _, rfl⟩
      · rintro kc m w5 hkc hch hm
        exact ⟨hch, Chg.refl _ _, rfl⟩
      · rintro kc m w5 hkc hch hm
        exact ⟨hch, Chg.refl _ _, rfl⟩
      · rintro kc m w5 hkc hch hm
        exact ⟨hch, Chg.refl _ _, rfl⟩
      · rintro kc m w5 hkc hch hm
        exact ⟨hch, Chg.refl _ _, rfl⟩
      · rintro kc m w5 hkc hch hm
        exact ⟨hch, Chg.refl _ _, rfl⟩
      · rintro kc m w5 hkc hch hm
        exact ⟨hch, Chg.refl _ _, rfl⟩
      · rintro kc m w5 hkc hch hm
        exact ⟨hch, Chg.refl _ _, rfl⟩
      · rintro kc m a w5 hkc hch hm hn
        obtain ⟨⟨_, e1, _, rfl⟩, ⟨_, e2, _, rfl⟩, -⟩ := hn
        exact rg_val (v := .bool false) (by simp [execOp, go_sem, e1, e2]) rfl hch (Chg.refl _ _) rfl
      rintro m w2 hc2
      simp only [AllVals]
      rintro v0 _ p0 v1 _ p1 v2 _ p2 v3 _ p3 v4 _ p4 v5 _ p5 v6 _ p6 v7 _ p7 v8 _ p8 v9 _ p9 v10 _ p10 v11 _ p11 v12 _ p12 v13 _ p13 v14 _ p14 v15 _ p15 v16 _ p16 v17 _ p17 v18 _ p18 v19 _ p19 v20 _ p20 v21 _ p21 v22 _ p22 v23 _ p23 v24 _ p24 v25 _ p25 v26 _ p26 v27 _ p27 v28 _ p28 v29 _ p29 v30 _ p30 v31 _ p31 v32 _ p32 v33 _ p33 v34 _ p34 v35 _ p35 v36 _ p36
      obtain rfl := p36
      clear p0 p1 p2 p3 p4 p5 p6 p7 p8 p9 p10 p11 p12 p13 p14 p15 p16 p17 p18 p19 p20 p21 p22 p23 p24 p25 p26 p27 p28 p29 p30 p31 p32 p33 p34 p35
      simp only [Act.put, List.setIfInBounds_toArray, List.set_cons_succ, List.set_cons_zero]
      have HC2 := Lib.hid hc2
      clear hc2
      go_wp2
      go_roundw
      case rel => exact ⟨j + 1, by omega, by go_num, HCH.out.trans HC2.out⟩
      case measure => simp [intOf]; omega
    have g3 : ((j : Int) != a2) = true := by rw [bne_iff_ne]; exact h3
    by_cases h4 : (j : Int) = a3
    · have g4 : ((j : Int) != a3) = false := by rw [h4]; simp
      clear h4
      go_wp2_with fail
      refine wp_region_ro (gl := [(6, some true), (12, some true), (18, some true), (24, some false)]) (WInv := fun _ _ w5 => Chg NoB wr w5) (R := Chg NoB) (Post := PV [some (.slice (some ⟨b, o, none⟩) D.length c1), some (.int .i64 (j : Int)), some (.pointer (some ⟨b, o + j * 2, none⟩)), some (.agg #[.int .i64 D[j].wear, .slice Aj D[j].pages.length cj]), some (.int .i64 (next D[j])), some (.bool true), some (.bool true), some (.int .i64 (j : Int)), some (.pointer (some ⟨V, 0, none⟩)), some (.int .i64 a1), some (.bool true), some (.bool true), some (.bool true), some (.int .i64 (j : Int)), some (.pointer (some ⟨V, 1, none⟩)), some (.int .i64 a2), some (.bool true), some (.bool true), some (.bool true), some (.int .i64 (j : Int)), some (.pointer (some ⟨V, 2, none⟩)), some (.int .i64 a3), some (.bool false), some (.bool false), some (.bool false), some (undef), some (undef), some (undef), some (undef), some (undef), some (undef), some (undef), some (undef), some (undef), some (undef), some (undef), some (.bool false)]) (by kernel_rfl) (by kernel_rfl) (pv_guard (by intro p hp; simp only [List.mem_cons, List.not_mem_nil, or_false] at hp; rcases hp with rfl | rfl | rfl | rfl <;> rfl)) (fun _ _ _ _ h _ _ => h) (fun _ _ _ _ h _ => h) (Chg.refl _ _).drew ⟨?_, ?_, ?_, ?_, ?_, ?_, ?_, ?_, ?_, ?_, ?_, ?_, ?_, ?_, ?_, ?_, ?_, ?_, ?_, ?_, ?_, ?_, ?_, ?_, ?_, ?_, ?_, ?_, ?_, ?_, ?_, ?_, ?_, ?_, ?_, ?_, ?_, trivial⟩ ?_
      · rintro kc m a w5 hkc hch hm hn
        obtain ⟨e1, -⟩ := hn
        replace e1 : a.tmps[3]?.getD undef = .slice (some ⟨b, o, none⟩) D.length c1 := e1
        exact rg_val (v := .slice (some ⟨b, o, none⟩) D.length c1) (by simp [execOp, go_sem, e1]) rfl hch (Chg.refl _ _) rfl
      · rintro kc m a w5 hkc hch hm hn
        obtain ⟨e1, -⟩ := hn
        replace e1 : a.tmps[6]?.getD undef = .int .i64 (j : Int) := e1
        exact rg_val (v := .int .i64 (j : Int)) (by simp [execOp, go_sem, e1]) rfl hch (Chg.refl _ _) rfl
      · rintro kc m a w5 hkc hch hm hn
        obtain ⟨⟨_, e1, _, rfl⟩, ⟨_, e2, _, rfl⟩, -⟩ := hn
        exact rg_val (v := .pointer (some ⟨b, o + j * 2, none⟩)) (by simp [execOp, go_sem, e1, e2]; exact fun hh => absurd hh (by omega)) rfl hch (Chg.refl _ _) rfl
      · rintro kc m a w5 hkc hch hm hn
        obtain ⟨⟨_, e1, _, rfl⟩, -⟩ := hn
        have c0 := Chg.cell hch z0 (fun x => x)
        have c1 := Chg.cell hch z1 (fun x => x)
        exact rg_val (v := .agg #[.int .i64 D[j].wear, .slice Aj D[j].pages.length cj]) (by simp [execOp, go_sem, e1, c0, c1]) rfl hch (Chg.refl _ _) rfl
      · rintro kc m a w5 hkc hch hm hn
        obtain ⟨⟨_, e1, _, rfl⟩, -⟩ := hn
        refine rg_call (f := 37) (args := #[.agg #[.int .i64 D[j].wear, .slice Aj D[j].pages.length cj]]) (by simp [go_sem, e1]) rfl ?_
        refine (HBN.out _ hch).mono ?_
        rintro e w6 ⟨rfl, hc6⟩
        exact ⟨_, rfl, hch.trans hc6, hc6, rfl⟩
      · rintro kc m a w5 hkc hch hm hn
        obtain ⟨⟨_, e1, _, rfl⟩, -⟩ := hn
        exact rg_val (v := .bool true) (by simp [execOp, go_sem, e1, g1]) rfl hch (Chg.refl _ _) rfl
      · rintro kc m a w5 hkc hch hm hn
        obtain ⟨⟨_, e1, _, rfl⟩, -⟩ := hn
        exact rg_val (v := .bool true) (by simp [execOp, go_sem, e1]) rfl hch (Chg.refl _ _) rfl
      · rintro kc m a w5 hkc hch hm hn
        obtain ⟨e1, -⟩ := hn
        replace e1 : a.tmps[6]?.getD undef = .int .i64 (j : Int) := e1
        exact rg_val (v := .int .i64 (j : Int)) (by simp [execOp, go_sem, e1]) rfl hch (Chg.refl _ _) rfl
      · rintro kc m a w5 hkc hch hm hn
        obtain ⟨e1, -⟩ := hn
        replace e1 : a.tmps[4]?.getD undef = .pointer (some ⟨V, 0, none⟩) := e1
        exact rg_val (v := .pointer (some ⟨V, 0, none⟩)) (by simp [execOp, go_sem, e1]) rfl hch (Chg.refl _ _) rfl
      · rintro kc m a w5 hkc hch hm hn
        obtain ⟨⟨_, e1, _, rfl⟩, -⟩ := hn
        have c0 := Chg.cell hch x0 (fun x => x)
        exact rg_val (v := .int .i64 a1) (by simp [execOp, go_sem, e1, c0]) rfl hch (Chg.refl _ _) rfl
      · rintro kc m a w5 hkc hch hm hn
        obtain ⟨⟨_, e1, _, rfl⟩, ⟨_, e2, _, rfl⟩, -⟩ := hn
        exact rg_val (v := .bool true) (by simp [execOp, go_sem, e1, e2, g2]) rfl hch (Chg.refl _ _) rfl
      · rintro kc m a w5 hkc hch hm hn
        obtain ⟨⟨_, e1, _, rfl⟩, ⟨_, e2, _, rfl⟩, -⟩ := hn
        exact rg_val (v := .bool true) (by simp [execOp, go_sem, e1, e2]) rfl hch (Chg.refl _ _) rfl
      · rintro kc m a w5 hkc hch hm hn
        obtain ⟨⟨_, e1, _, rfl⟩, -⟩ := hn
        exact rg_val (v := .bool true) (by simp [execOp, go_sem, e1]) rfl hch (Chg.refl _ _) rfl
      · rintro kc m a w5 hkc hch hm hn
        obtain ⟨e1, -⟩ := hn
        replace e1 : a.tmps[6]?.getD undef = .int .i64 (j : Int) := e1
        exact rg_val (v := .int .i64 (j : Int)) (by simp [execOp, go_sem, e1]) rfl hch (Chg.refl _ _) rfl
      · rintro kc m a w5 hkc hch hm hn
        obtain ⟨e1, -⟩ := hn
        replace e1 : a.tmps[4]?.getD undef = .pointer (some ⟨V, 0, none⟩) := e1
        exact rg_val (v := .pointer (some ⟨V, 1, none⟩)) (by simp [execOp, go_sem, e1]) rfl hch (Chg.refl _ _) rfl
      · rintro kc m a w5 hkc hch hm hn
        obtain ⟨⟨_, e1, _, rfl⟩, -⟩ := hn
        have c0 := Chg.cell hch x1 (fun x => x)
        exact rg_val (v := .int .i64 a2) (by simp [execOp, go_sem, e1, c0]) rfl hch (Chg.refl _ _) rfl
      · rintro kc m a w5 hkc hch hm hn
        obtain ⟨⟨_, e1, _, rfl⟩, ⟨_, e2, _, rfl⟩, -⟩ := hn
        exact rg_val (v := .bool true) (by simp [execOp, go_sem, e1, e2, g3]) rfl hch (Chg.refl _ _) rfl
      · rintro kc m a w5 hkc hch hm hn
        obtain ⟨⟨_, e1, _, rfl⟩, ⟨_, e2, _, rfl⟩, -⟩ := hn
        exact rg_val (v := .bool true) (by simp [execOp, go_sem, e1, e2]) rfl hch (Chg.refl _ _) rfl
      · rintro kc m a w5 hkc hch hm hn
        obtain ⟨⟨_, e1, _, rfl⟩, -⟩ := hn
        exact rg_val (v := .bool true) (by simp [execOp, go_sem, e1]) rfl hch (Chg.refl _ _) rfl
      · rintro kc m a w5 hkc hch hm hn
        obtain ⟨e1, -⟩ := hn
        replace e1 : a.tmps[6]?.getD undef = .int .i64 (j : Int) := e1
        exact rg_val (v := .int .i64 (j : Int)) (by simp [execOp, go_sem, e1]) rfl hch (Chg.refl _ _) rfl
      · rintro kc m a w5 hkc hch hm hn
        obtain ⟨e1, -⟩ := hn
        replace e1 : a.tmps[4]?.getD undef = .pointer (some ⟨V, 0, none⟩) := e1
        exact rg_val (v := .pointer (some ⟨V, 2, none⟩)) (by simp [execOp, go_sem, e1]) rfl hch (Chg.refl _ _) rfl
      · rintro kc m a w5 hkc hch hm hn
        obtain ⟨⟨_, e1, _, rfl⟩, -⟩ := hn
        have c0 := Chg.cell hch x2 (fun x => x)
        exact rg_val (v := .int .i64 a3) (by simp [execOp, go_sem, e1, c0]) rfl hch (Chg.refl _ _) rfl
      · rintro kc m a w5 hkc hch hm hn
        obtain ⟨⟨_, e1, _, rfl⟩, ⟨_, e2, _, rfl⟩, -⟩ := hn
        exact rg_val (v := .bool false) (by simp [execOp, go_sem, e1, e2, g4]) rfl hch (Chg.refl _ _) rfl
      · rintro kc m a w5 hkc hch hm hn
        obtain ⟨⟨_, e1, _, rfl⟩, ⟨_, e2, _, rfl⟩, -⟩ := hn
        exact rg_val (v := .bool false) (by simp [execOp, go_sem, e1, e2]) rfl hch (Chg.refl _ _) rfl
      · rintro kc m a w5 hkc hch hm hn
        obtain ⟨⟨_, e1, _, rfl⟩, -⟩ := hn
        exact rg_val (v := .bool false) (by simp [execOp, go_sem, e1]) rfl hch (Chg.refl _ _) rfl
      · rintro kc m w5 hkc hch hm
        exact ⟨hch, Chg.refl _ _, rfl⟩
      · rintro kc m w5 hkc hch hm
        exact ⟨hch, Chg.refl _ _, rfl⟩
      · rintro kc m w5 hkc hch hm
        exact ⟨hch, Chg.refl _ _, rfl⟩
      · rintro kc m w5 hkc hch hm
        exact ⟨hch, Chg.refl _ _, rfl⟩
      · rintro kc m w5 hkc hch hm
        exact ⟨hch, Chg.refl _ _, rfl⟩
      · rintro kc m w5 hkc hch hm
        exact ⟨hch, Chg.refl _ _, rfl⟩
      · rintro kc m w5 hkc hch hm
        exact ⟨hch, Chg.refl _ _, rfl⟩
      · rintro kc m w5 hkc hch hm
        exact ⟨hch, Chg.refl _ _, rfl⟩
      · rintro kc m w5 hkc hch hm
        exact ⟨hch, Chg.refl _ _, rfl⟩
      · rintro kc m w5 hkc hch hm
        exact ⟨hch, Chg.refl _ _, rfl⟩
      · rintro kc m w5 hkc hch hm
        exact ⟨hch, Chg.refl _ _, rfl⟩
      · rintro kc m a w5 hkc hch hm hn
        obtain ⟨⟨_, e1, _, rfl⟩, ⟨_, e2, _, rfl⟩, -⟩ := hn
        exact rg_val (v := .bool false) (by simp [execOp, go_sem, e1, e2]) rfl hch (Chg.refl _ _) rfl
      rintro m w2 hc2
      simp only [AllVals]
      rintro v0 _ p0 v1 _ p1 v2 _ p2 v3 _ p3 v4 _ p4 v5 _ p5 v6 _ p6 v7 _ p7 v8 _ p8 v9 _ p9 v10 _ p10 v11 _ p11 v12 _ p12 v13 _ p13 v14 _ p14 v15 _ p15 v16 _ p16 v17 _ p17 v18 _ p18 v19 _ p19 v20 _ p20 v21 _ p21 v22 _ p22 v23 _ p23 v24 _ p24 v25 _ p25 v26 _ p26 v27 _ p27 v28 _ p28 v29 _ p29 v30 _ p30 v31 _ p31 v32 _ p32 v33 _ p33 v34 _ p34 v35 _ p35 v36 _ p36
      obtain rfl := p36
      clear p0 p1 p2 p3 p4 p5 p6 p7 p8 p9 p10 p11 p12 p13 p14 p15 p16 p17 p18 p19 p20 p21 p22 p23 p24 p25 p26 p27 p28 p29 p30 p31 p32 p33 p34 p35
      simp only [Act.put, List.setIfInBounds_toArray, List.set_cons_succ, List.set_cons_zero]
      have HC2 := Lib.hid hc2
      clear hc2
      go_wp2
      go_roundw
      case rel => exact ⟨j + 1, by omega, by go_num, HCH.out.trans HC2.out⟩
      case measure => simp [intOf]; omega
    have g4 : ((j : Int) != a3) = true := by rw [bne_iff_ne]; exact h4
    have hw := HALL.out j hlt (by unfold restGood isHead; rw [getD_get _ _ hlt]; simp [h1, h2, h3, h4])
    rw [hwj] at z0
    have HBN4 := Lib.hid (show ∀ wq, Chg NoB wr wq → Calls Try.prog 37 #[.agg #[.int .i64 (wearAt D j), .slice Aj D[j].pages.length cj]] wq fun e w' => e = .returned (.int .i64 (next D[j])) ∧ Chg NoB wq w' from by rw [← hwj]; exact HBN.out)
    have g5 : ¬ (wearAt D j < wearAt D v) := by omega
    clear hwj h2 h3 h4
    go_wp2_with fail
    refine wp_region_ro (gl := [(6, some true), (12, some true), (18, some true), (24, some true)]) (WInv := fun _ _ w5 => Chg NoB wr w5) (R := Chg NoB) (Post := PV [some (.slice (some ⟨b, o, none⟩) D.length c1), some (.int .i64 (j : Int)), some (.pointer (some ⟨b, o + j * 2, none⟩)), some (.agg #[.int .i64 (wearAt D j), .slice Aj D[j].pages.length cj]), some (.int .i64 (next D[j])), some (.bool true), some (.bool true), some (.int .i64 (j : Int)), some (.pointer (some ⟨V, 0, none⟩)), some (.int .i64 a1), some (.bool true), some (.bool true), some (.bool true), some (.int .i64 (j : Int)), some (.pointer (some ⟨V, 1, none⟩)), some (.int .i64 a2), some (.bool true), some (.bool true), some (.bool true), some (.int .i64 (j : Int)), some (.pointer (some ⟨V, 2, none⟩)), some (.int .i64 a3), some (.bool true), some (.bool true), some (.bool true), some (.slice (some ⟨b, o, none⟩) D.length c1), some (.int .i64 (j : Int)), some (.pointer (some ⟨b, o + j * 2, none⟩)), some (.pointer (some ⟨b, o + j * 2, none⟩)), some (.int .i64 (wearAt D j)), some (.slice (some ⟨b, o, none⟩) D.length c1), some (.int .i64 (v : Int)), some (.pointer (some ⟨b, o + v * 2, none⟩)), some (.pointer (some ⟨b, o + v * 2, none⟩)), some (.int .i64 (wearAt D v)), some (.bool false), some (.bool false)]) (by kernel_rfl) (by kernel_rfl) (pv_guard (by intro p hp; simp only [List.mem_cons, List.not_mem_nil, or_false] at hp; rcases hp with rfl | rfl | rfl | rfl <;> rfl)) (fun _ _ _ _ h _ _ => h) (fun _ _ _ _ h _ => h) (Chg.refl _ _).drew ⟨?_, ?_, ?_, ?_, ?_, ?_, ?_, ?_, ?_, ?_, ?_, ?_, ?_, ?_, ?_, ?_, ?_, ?_, ?_, ?_, ?_, ?_, ?_, ?_, ?_, ?_, ?_, ?_, ?_, ?_, ?_, ?_, ?_, ?_, ?_, ?_, ?_, trivial⟩ ?_
    · rintro kc m a w5 hkc hch hm hn
      obtain ⟨e1, -⟩ := hn
      replace e1 : a.tmps[3]?.getD undef = .slice (some ⟨b, o, none⟩) D.length c1 := e1
      exact rg_val (v := .slice (some ⟨b, o, none⟩) D.length c1) (by simp [execOp, go_sem, e1]) rfl hch (Chg.refl _ _) rfl
    · rintro kc m a w5 hkc hch hm hn
      obtain ⟨e1, -⟩ := hn
      replace e1 : a.tmps[6]?.getD undef = .int .i64 (j : Int) := e1
      exact rg_val (v := .int .i64 (j : Int)) (by simp [execOp, go_sem, e1]) rfl hch (Chg.refl _ _) rfl
    · rintro kc m a w5 hkc hch hm hn
      obtain ⟨⟨_, e1, _, rfl⟩, ⟨_, e2, _, rfl⟩, -⟩ := hn
      exact rg_val (v := .pointer (some ⟨b, o + j * 2, none⟩)) (by simp [execOp, go_sem, e1, e2]; exact fun hh => absurd hh (by omega)) rfl hch (Chg.refl _ _) rfl
    · rintro kc m a w5 hkc hch hm hn
      obtain ⟨⟨_, e1, _, rfl⟩, -⟩ := hn
      have c0 := Chg.cell hch z0 (fun x => x)
      have c1 := Chg.cell hch z1 (fun x => x)
      exact rg_val (v := .agg #[.int .i64 (wearAt D j), .slice Aj D[j].pages.length cj]) (by simp [execOp, go_sem, e1, c0, c1]) rfl hch (Chg.refl _ _) rfl
    · rintro kc m a w5 hkc hch hm hn
      obtain ⟨⟨_, e1, _, rfl⟩, -⟩ := hn
      refine rg_call (f := 37) (args := #[.agg #[.int .i64 (wearAt D j), .slice Aj D[j].pages.length cj]]) (by simp [go_sem, e1]) rfl ?_
      refine (HBN4.out _ hch).mono ?_
      rintro e w6 ⟨rfl, hc6⟩
      exact ⟨_, rfl, hch.trans hc6, hc6, rfl⟩
    · rintro kc m a w5 hkc hch hm hn
      obtain ⟨⟨_, e1, _, rfl⟩, -⟩ := hn
      exact rg_val (v := .bool true) (by simp [execOp, go_sem, e1, g1]) rfl hch (Chg.refl _ _) rfl
    · rintro kc m a w5 hkc hch hm hn
      obtain ⟨⟨_, e1, _, rfl⟩, -⟩ := hn
      exact rg_val (v := .bool true) (by simp [execOp, go_sem, e1]) rfl hch (Chg.refl _ _) rfl
    · rintro kc m a w5 hkc hch hm hn
      obtain ⟨e1, -⟩ := hn
      replace e1 : a.tmps[6]?.getD undef = .int .i64 (j : Int) := e1
      exact rg_val (v := .int .i64 (j : Int)) (by simp [execOp, go_sem, e1]) rfl hch (Chg.refl _ _) rfl
    · rintro kc m a w5 hkc hch hm hn
      obtain ⟨e1, -⟩ := hn
      replace e1 : a.tmps[4]?.getD undef = .pointer (some ⟨V, 0, none⟩) := e1
      exact rg_val (v := .pointer (some ⟨V, 0, none⟩)) (by simp [execOp, go_sem, e1]) rfl hch (Chg.refl _ _) rfl
    · rintro kc m a w5 hkc hch hm hn
      obtain ⟨⟨_, e1, _, rfl⟩, -⟩ := hn
      have c0 := Chg.cell hch x0 (fun x => x)
      exact rg_val (v := .int .i64 a1) (by simp [execOp, go_sem, e1, c0]) rfl hch (Chg.refl _ _) rfl
    · rintro kc m a w5 hkc hch hm hn
      obtain ⟨⟨_, e1, _, rfl⟩, ⟨_, e2, _, rfl⟩, -⟩ := hn
      exact rg_val (v := .bool true) (by simp [execOp, go_sem, e1, e2, g2]) rfl hch (Chg.refl _ _) rfl
    · rintro kc m a w5 hkc hch hm hn
      obtain ⟨⟨_, e1, _, rfl⟩, ⟨_, e2, _, rfl⟩, -⟩ := hn
      exact rg_val (v := .bool true) (by simp [execOp, go_sem, e1, e2]) rfl hch (Chg.refl _ _) rfl
    · rintro kc m a w5 hkc hch hm hn
      obtain ⟨⟨_, e1, _, rfl⟩, -⟩ := hn
      exact rg_val (v := .bool true) (by simp [execOp, go_sem, e1]) rfl hch (Chg.refl _ _) rfl
    · rintro kc m a w5 hkc hch hm hn
      obtain ⟨e1, -⟩ := hn
      replace e1 : a.tmps[6]?.getD undef = .int .i64 (j : Int) := e1
      exact rg_val (v := .int .i64 (j : Int)) (by simp [execOp, go_sem, e1]) rfl hch (Chg.refl _ _) rfl
    · rintro kc m a w5 hkc hch hm hn
      obtain ⟨e1, -⟩ := hn
      replace e1 : a.tmps[4]?.getD undef = .pointer (some ⟨V, 0, none⟩) := e1
      exact rg_val (v := .pointer (some ⟨V, 1, none⟩)) (by simp [execOp, go_sem, e1]) rfl hch (Chg.refl _ _) rfl
    · rintro kc m a w5 hkc hch hm hn
      obtain ⟨⟨_, e1, _, rfl⟩, -⟩ := hn
      have c0 := Chg.cell hch x1 (fun x => x)
      exact rg_val (v := .int .i64 a2) (by simp [execOp, go_sem, e1, c0]) rfl hch (Chg.refl _ _) rfl
    · rintro kc m a w5 hkc hch hm hn
      obtain ⟨⟨_, e1, _, rfl⟩, ⟨_, e2, _, rfl⟩, -⟩ := hn
      exact rg_val (v := .bool true) (by simp [execOp, go_sem, e1, e2, g3]) rfl hch (Chg.refl _ _) rfl
    · rintro kc m a w5 hkc hch hm hn
      obtain ⟨⟨_, e1, _, rfl⟩, ⟨_, e2, _, rfl⟩, -⟩ := hn
      exact rg_val (v := .bool true) (by simp [execOp, go_sem, e1, e2]) rfl hch (Chg.refl _ _) rfl
    · rintro kc m a w5 hkc hch hm hn
      obtain ⟨⟨_, e1, _, rfl⟩, -⟩ := hn
      exact rg_val (v := .bool true) (by simp [execOp, go_sem, e1]) rfl hch (Chg.refl _ _) rfl
    · rintro kc m a w5 hkc hch hm hn
      obtain ⟨e1, -⟩ := hn
      replace e1 : a.tmps[6]?.getD undef = .int .i64 (j : Int) := e1
      exact rg_val (v := .int .i64 (j : Int)) (by simp [execOp, go_sem, e1]) rfl hch (Chg.refl _ _) rfl
    · rintro kc m a w5 hkc hch hm hn
      obtain ⟨e1, -⟩ := hn
      replace e1 : a.tmps[4]?.getD undef = .pointer (some ⟨V, 0, none⟩) := e1
      exact rg_val (v := .pointer (some ⟨V, 2, none⟩)) (by simp [execOp, go_sem, e1]) rfl hch (Chg.refl _ _) rfl
    · rintro kc m a w5 hkc hch hm hn
      obtain ⟨⟨_, e1, _, rfl⟩, -⟩ := hn
      have c0 := Chg.cell hch x2 (fun x => x)
      exact rg_val (v := .int .i64 a3) (by simp [execOp, go_sem, e1, c0]) rfl hch (Chg.refl _ _) rfl
    · rintro kc m a w5 hkc hch hm hn
      obtain ⟨⟨_, e1, _, rfl⟩, ⟨_, e2, _, rfl⟩, -⟩ := hn
      exact rg_val (v := .bool true) (by simp [execOp, go_sem, e1, e2, g4]) rfl hch (Chg.refl _ _) rfl
    · rintro kc m a w5 hkc hch hm hn
      obtain ⟨⟨_, e1, _, rfl⟩, ⟨_, e2, _, rfl⟩, -⟩ := hn
      exact rg_val (v := .bool true) (by simp [execOp, go_sem, e1, e2]) rfl hch (Chg.refl _ _) rfl
    · rintro kc m a w5 hkc hch hm hn
      obtain ⟨⟨_, e1, _, rfl⟩, -⟩ := hn
      exact rg_val (v := .bool true) (by simp [execOp, go_sem, e1]) rfl hch (Chg.refl _ _) rfl
    · rintro kc m a w5 hkc hch hm hn
      obtain ⟨e1, -⟩ := hn
      replace e1 : a.tmps[3]?.getD undef = .slice (some ⟨b, o, none⟩) D.length c1 := e1
      exact rg_val (v := .slice (some ⟨b, o, none⟩) D.length c1) (by simp [execOp, go_sem, e1]) rfl hch (Chg.refl _ _) rfl
    · rintro kc m a w5 hkc hch hm hn
      obtain ⟨e1, -⟩ := hn
      replace e1 : a.tmps[6]?.getD undef = .int .i64 (j : Int) := e1
      exact rg_val (v := .int .i64 (j : Int)) (by simp [execOp, go_sem, e1]) rfl hch (Chg.refl _ _) rfl
    · rintro kc m a w5 hkc hch hm hn
      obtain ⟨⟨_, e1, _, rfl⟩, ⟨_, e2, _, rfl⟩, -⟩ := hn
      exact rg_val (v := .pointer (some ⟨b, o + j * 2, none⟩)) (by simp [execOp, go_sem, e1, e2]; exact fun hh => absurd hh (by omega)) rfl hch (Chg.refl _ _) rfl
    · rintro kc m a w5 hkc hch hm hn
      obtain ⟨⟨_, e1, _, rfl⟩, -⟩ := hn
      exact rg_val (v := .pointer (some ⟨b, o + j * 2, none⟩)) (by simp [execOp, go_sem, e1]) rfl hch (Chg.refl _ _) rfl
    · rintro kc m a w5 hkc hch hm hn
      obtain ⟨⟨_, e1, _, rfl⟩, -⟩ := hn
      have c0 := Chg.cell hch z0 (fun x => x)
      exact rg_val (v := .int .i64 (wearAt D j)) (by simp [execOp, go_sem, e1, c0]) rfl hch (Chg.refl _ _) rfl
    · rintro kc m a w5 hkc hch hm hn
      obtain ⟨e1, -⟩ := hn
      replace e1 : a.tmps[3]?.getD undef = .slice (some ⟨b, o, none⟩) D.length c1 := e1
      exact rg_val (v := .slice (some ⟨b, o, none⟩) D.length c1) (by simp [execOp, go_sem, e1]) rfl hch (Chg.refl _ _) rfl
    · rintro kc m a w5 hkc hch hm hn
      obtain ⟨e1, -⟩ := hn
      replace e1 : a.tmps[5]?.getD undef = .int .i64 (v : Int) := e1
      exact rg_val (v := .int .i64 (v : Int)) (by simp [execOp, go_sem, e1]) rfl hch (Chg.refl _ _) rfl
    · rintro kc m a w5 hkc hch hm hn
      obtain ⟨⟨_, e1, _, rfl⟩, ⟨_, e2, _, rfl⟩, -⟩ := hn
      exact rg_val (v := .pointer (some ⟨b, o + v * 2, none⟩)) (by simp [execOp, go_sem, e1, e2]; exact fun hh => absurd hh (by omega)) rfl hch (Chg.refl _ _) rfl
    · rintro kc m a w5 hkc hch hm hn
      obtain ⟨⟨_, e1, _, rfl⟩, -⟩ := hn
      exact rg_val (v := .pointer (some ⟨b, o + v * 2, none⟩)) (by simp [execOp, go_sem, e1]) rfl hch (Chg.refl _ _) rfl
    · rintro kc m a w5 hkc hch hm hn
      obtain ⟨⟨_, e1, _, rfl⟩, -⟩ := hn
      have c0 := Chg.cell hch y0 (fun x => x)
      exact rg_val (v := .int .i64 (wearAt D v)) (by simp [execOp, go_sem, e1, c0]) rfl hch (Chg.refl _ _) rfl
    · rintro kc m a w5 hkc hch hm hn
      obtain ⟨⟨_, e1, _, rfl⟩, ⟨_, e2, _, rfl⟩, -⟩ := hn
      exact rg_val (v := .bool false) (by simp [execOp, go_sem, e1, e2, g5]) rfl hch (Chg.refl _ _) rfl
    · rintro kc m a w5 hkc hch hm hn
      obtain ⟨⟨_, e1, _, rfl⟩, ⟨_, e2, _, rfl⟩, -⟩ := hn
      exact rg_val (v := .bool false) (by simp [execOp, go_sem, e1, e2]) rfl hch (Chg.refl _ _) rfl
    rintro m w2 hc2
    simp only [AllVals]
    rintro v0 _ p0 v1 _ p1 v2 _ p2 v3 _ p3 v4 _ p4 v5 _ p5 v6 _ p6 v7 _ p7 v8 _ p8 v9 _ p9 v10 _ p10 v11 _ p11 v12 _ p12 v13 _ p13 v14 _ p14 v15 _ p15 v16 _ p16 v17 _ p17 v18 _ p18 v19 _ p19 v20 _ p20 v21 _ p21 v22 _ p22 v23 _ p23 v24 _ p24 v25 _ p25 v26 _ p26 v27 _ p27 v28 _ p28 v29 _ p29 v30 _ p30 v31 _ p31 v32 _ p32 v33 _ p33 v34 _ p34 v35 _ p35 v36 _ p36
    obtain rfl := p36
    clear p0 p1 p2 p3 p4 p5 p6 p7 p8 p9 p10 p11 p12 p13 p14 p15 p16 p17 p18 p19 p20 p21 p22 p23 p24 p25 p26 p27 p28 p29 p30 p31 p32 p33 p34 p35
    simp only [Act.put, List.setIfInBounds_toArray, List.set_cons_succ, List.set_cons_zero]
    have HC2 := Lib.hid hc2
    clear hc2
    go_wp2
    go_roundw
    case rel => exact ⟨j + 1, by omega, by go_num, HCH.out.trans HC2.out⟩
    case measure => simp [intOf]; omega
end Go.Proofs.Ytenbbkmbnpdfaaa
