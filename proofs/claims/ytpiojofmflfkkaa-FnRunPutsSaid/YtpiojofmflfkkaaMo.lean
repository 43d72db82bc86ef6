/- Parts of the proof, merged: Zo, Zp. -/
import Derived.Test.YtpiojofmflfkkaaMi
import Derived.Test.YtpiojofmflfkkaaMg
/- TableOf of the program and of the reference. -/
namespace Go.Proofs.Ytpiojofmflfkkaa
open Go.RowKit
def fiOf (D : List Bk) (k : Nat) : Nat := (pgAt D k).file.toNat
def plOf (D : List Bk) (k : Nat) : Nat := (pgAt D k).place.toNat
/-- The table after the first n pages. -/
def tofN (D : List Bk) : Nat → Nat → Nat → Int
  | 0 => fun _ _ => -1
  | n + 1 => if (pgAt D n).full = true ∧ (tofN D n (fiOf D n) (plOf D n) < 0 ∨ stampOf D (tofN D n (fiOf D n) (plOf D n)).toNat < stampOf D n) then upd2 (tofN D n) (fiOf D n) (plOf D n) (n : Int) else tofN D n
theorem tofN_range (D : List Bk) (n : Nat) : ∀ f p, -1 ≤ tofN D n f p ∧ tofN D n f p < (n : Int) := by
  induction n with
  | zero => intro f p; exact ⟨by simp [tofN], by simp [tofN]⟩
  | succ n ih =>
    intro f p
    have := ih f p
    unfold tofN
    split
    · unfold upd2
      split <;> omega
    · omega
def tableOf (D : List Bk) : List (List Int) := if DvOk D then tabF (tofN D (4 * D.length)) else []
theorem emptyRows_tabF : emptyRows 8 = tabF (fun _ _ => -1) := by rfl
theorem tofN_free {D : List Bk} {n : Nat} (h : (pgAt D n).full = false) : tofN D (n + 1) = tofN D n := if_neg fun hh => by rw [h] at hh; exact absurd hh.1 (by simp)
theorem tofN_succ (D : List Bk) (n : Nat) : tofN D (n + 1) = if (pgAt D n).full = true ∧ (tofN D n (fiOf D n) (plOf D n) < 0 ∨ stampOf D (tofN D n (fiOf D n) (plOf D n)).toNat < stampOf D n) then upd2 (tofN D n) (fiOf D n) (plOf D n) (n : Int) else tofN D n := rfl
theorem tofN_put {D : List Bk} {n fi pl : Nat} (h : (pgAt D n).full = true) (hf : (pgAt D n).file = (fi : Int)) (hp : (pgAt D n).place = (pl : Int)) (h2 : tofN D n fi pl < 0 ∨ stampOf D (tofN D n fi pl).toNat < stampOf D n) : tofN D (n + 1) = upd2 (tofN D n) fi pl (n : Int) := by
  have e1 : fiOf D n = fi := by unfold fiOf; rw [hf]; rfl
  have e2 : plOf D n = pl := by unfold plOf; rw [hp]; rfl
  rw [tofN_succ, e1, e2, if_pos ⟨h, h2⟩]
theorem tofN_keep {D : List Bk} {n fi pl : Nat} (hf : (pgAt D n).file = (fi : Int)) (hp : (pgAt D n).place = (pl : Int)) (h2 : ¬ (tofN D n fi pl < 0 ∨ stampOf D (tofN D n fi pl).toNat < stampOf D n)) : tofN D (n + 1) = tofN D n := by
  have e1 : fiOf D n = fi := by unfold fiOf; rw [hf]; rfl
  have e2 : plOf D n = pl := by unfold plOf; rw [hp]; rfl
  rw [tofN_succ, e1, e2, if_neg (fun hh => h2 hh.2)]
set_option maxRecDepth 100000 in
set_option maxHeartbeats 8000000 in
theorem iTableOf_any (F : Nat → Prop) (A0 : Option Addr) (c0 : Nat) (D : List Bk) (w : World) (hr : DevR F w A0 D) :
    Calls Try.prog 18 #[.slice A0 D.length c0] w (RollP w (tableOf D)) := by
  have hca := (Chg.refl NoB w).alloc (.cells #[.slice none 0 0] 31)
  have HB := Lib.hid (Blk.new w 31 #[.slice none 0 0])
  have HC0 := Lib.hid hca
  have HD0 := Lib.hid (show DevR (fun i => i < w.heap.size) _ A0 D from (hr.lt.mono (G := fun i => i < w.heap.size) fun i _ hi => hi.2).new hca)
  clear hca hr
  by_cases hd : DvOk D
  case neg =>
    have HD := Lib.hid hd
    have HE := Lib.hid (show tableOf D = [] from if_neg hd)
    clear hd
    go_enter Try.func18, Try.ntmps18
    go_wp2_with fail
    refine (iDeviceValid_f _ A0 c0 D _ HD0.out HD.out).mono ?_
    rintro e w1 ⟨rfl, hc1⟩
    have hb2 := HB.out.chg hc1 (fun x => x)
    have r0 : w1.cell? ⟨w.heap.size, 0, none⟩ = some (.slice none 0 0) := (hb2.cell _).trans rfl
    have rf0 := hb2.frozen 0
    have HC1 := Lib.hid (HC0.out.trans hc1)
    clear hc1 hb2
    go_wp2_with fail
    (try simp only [Exit.inBlock, Exit.then])
    refine bodyPost_ret (v := .agg #[.slice none 0 0]) (by simp [results, Try.results18, go_sem, *]) rfl ?_
    unfold RollP
    rw [HE.out]
    exact ⟨none, 0, [], rfl, rfl, HC1.out.own ((Chg.refl (· = w.heap.size) w1).setCell (p := ⟨w.heap.size, 0, none⟩) (.inl rfl) _) (Nat.le_refl _), TabO.nil _ _ _ _ _⟩
  have HD := Lib.hid hd
  have HE := Lib.hid (show tableOf D = tabF (tofN D (4 * D.length)) from if_pos hd)
  have h1 := hd.1.1
  have h2 := hd.1.2
  clear hd
  go_enter Try.func18, Try.ntmps18
  go_wp2_with fail
  refine (iDeviceValid_t _ A0 c0 D _ HD0.out HD.out).mono ?_
  rintro e w2 ⟨rfl, hc1⟩
  have HB2 := Lib.hid (HB.out.chg hc1 (fun x => x))
  have HD2 := Lib.hid (HD0.out.new hc1)
  have HC2 := Lib.hid (HC0.out.trans hc1)
  clear hc1 HB HD0 HC0
  go_wp2_with fail
  refine (emptyTable_any _).mono ?_
  rintro e w3 ⟨g, T, rfl, hT, hc3, hO⟩
  have hca := (Chg.refl NoB w3).alloc (.cells #[.slice (some ⟨g, 0, none⟩) 8 8] 31)
  have HC4 := Lib.hid ((HC2.out.trans hc3).trans hca)
  have HB4 := Lib.hid ((HB2.out.chg hc3 (fun x => x)).chg hca (fun x => x))
  have HV4 := Lib.hid (Blk.new w3 31 #[.slice (some ⟨g, 0, none⟩) 8 8])
  have HD4 := Lib.hid ((HD2.out.new hc3).new hca)
  have HT4 := Lib.hid (hO.new hca)
  have HTT := Lib.hid (show listsOf T = tabF (tofN D 0) by rw [hT, emptyRows_tabF]; rfl)
  have HSZ := Lib.hid (show (w3.alloc (.cells #[.slice (some ⟨g, 0, none⟩) 8 8] 31)).heap.size = w3.heap.size + 1 by rw [World.size_alloc])
  have HS2 := Lib.hid (show w.heap.size < w2.heap.size from HB2.out.lt)
  have HS3 := Lib.hid hc3.size
  clear hT hO hc3 hca HD2 HC2 HB2
  go_wp2_with fail
  obtain ⟨w4, hw4⟩ : ∃ w4, w3.alloc (.cells #[.slice (some ⟨g, 0, none⟩) 8 8] 31) = w4 := ⟨_, rfl⟩
  obtain ⟨V, hV⟩ : ∃ V, w3.heap.size = V := ⟨_, rfl⟩
  have hVz := HSZ.out
  have hVs := HS3.out
  rw [hw4] at HC4 HB4 HV4 HD4 HT4 hVz ⊢
  rw [hV] at HV4 HT4 hVz hVs ⊢
  have HVS := Lib.hid hVs
  have HVZ := Lib.hid hVz
  clear hV hVz hVs HSZ HS3 hw4
  go_loopw [15] (fun i wr => ∃ (k : Nat) (T : List RowO), k ≤ 4 * D.length ∧ i = .int .i64 k ∧ Chg (fun i => w2.heap.size ≤ i ∧ i < V) w4 wr ∧ TabO w2.heap.size V wr (some ⟨g, 0, none⟩) 8 T ∧ Hid (listsOf T = tabF (tofN D k))) (fun i _ => 4 * D.length - (intOf i).toNat)
  case atStart => exact ⟨0, T, Nat.zero_le _, rfl, Chg.refl _ _, HT4.out, HTT⟩
  case round =>
    obtain ⟨wa, hwa⟩ : ∃ wa, wa = wr := ⟨_, rfl⟩
    rw [← hwa] at hrel ⊢
    obtain ⟨k, Ta, hk, rfl, hch, hta, HTA⟩ := hrel
    clear hwa
    have HCH := Lib.hid hch
    have HTO := Lib.hid hta
    have hs2 := HS2.out
    have hvs := HVS.out
    by_cases hlt : k < 4 * D.length
    case neg =>
      have hlt' : ¬ ((k : Int) < (D.length : Int) * 4) := by omega
      obtain rfl : k = 4 * D.length := by omega
      have hvb := HV4.out.chg hch (fun h => by omega)
      have v0 : wa.cell? ⟨V, 0, none⟩ = some (.slice (some ⟨g, 0, none⟩) 8 8) := (hvb.cell _).trans rfl
      have hb := HB4.out.chg hch (fun h => by omega)
      have r0 : wa.cell? ⟨w.heap.size, 0, none⟩ = some (.slice none 0 0) := (hb.cell _).trans rfl
      have rf0 := hb.frozen 0
      have HVL := Lib.hid hvb.lt
      clear hch hta hvb hb
      go_wp2_with fail
      (try simp only [Exit.inBlock, Exit.then])
      refine bodyPost_ret (v := .agg #[.slice (some ⟨g, 0, none⟩) 8 8]) (by simp [results, Try.results18, go_sem, *]) rfl ?_
      have hTe := HTA.out
      rw [← HE.out] at hTe
      have hcs := (Chg.refl (· = w.heap.size) wa).setCell (p := ⟨w.heap.size, 0, none⟩) (.inl rfl) (.slice (some ⟨g, 0, none⟩) 8 8)
      refine ⟨some ⟨g, 0, none⟩, 8, Ta, by rw [HE.out, tabF_len], hTe, (HC4.out.trans' HCH.out (fun i hi => .inr (by omega))).own hcs (Nat.le_refl _), (HTO.out.chg hcs (fun i h1 h2 h3 => by have h4 : i = w.heap.size := h3; omega)).more (by omega) (by have := HVL.out; rw [World.size_setCell]; omega)⟩
    have hi0 : (0 : Int) ≤ (k : Int) := Int.natCast_nonneg _
    have hi1 : (k : Int) < (D.length : Int) * 4 := by omega
    have HLT := Lib.hid hlt
    have HDA := Lib.hid (HD4.out.chg hch (fun i h1 h2 => by omega))
    clear hch hta
    go_wp2_with fail
    refine (pageAt_any _ A0 c0 D k _ HDA.out HD.out HLT.out).mono ?_
    rintro e w5 ⟨rfl, hc5⟩
    cases hf : (pgAt D k).full with
    | false =>
      have HNX := Lib.hid (tofN_free hf)
      have HC5 := Lib.hid (HCH.out.trans (hc5.mono (fun _ _ h => h.elim)))
      have HT5 := Lib.hid (HTO.out.new hc5)
      clear hc5
      go_wp2
      go_roundw
      case rel => exact ⟨k + 1, Ta, by omega, by go_num, HC5.out.alloc _, HT5.out.new ((Chg.refl NoB _).alloc _), Lib.hid (by rw [HNX.out]; exact HTA.out)⟩
      case measure => simp [intOf]; omega
    | true =>
      obtain ⟨fi, pl, hfi, hpl, hfi8, hpl6⟩ := page_places HD.out hlt hf
      have HFP := Lib.hid (And.intro hfi hpl)
      have HFU := Lib.hid hf
      have HSO := Lib.hid (show stampOf D k = (pgAt D k).stamp from rfl)
      have hca := (Chg.refl NoB w5).alloc (.cells #[.bool true, .int .i64 (fi : Int), .int .i64 (pl : Int), .int .i64 (pgAt D k).value, .int .i64 (pgAt D k).stamp] 80)
      have hbx := Blk.new w5 80 #[.bool true, .int .i64 (fi : Int), .int .i64 (pl : Int), .int .i64 (pgAt D k).value, .int .i64 (pgAt D k).stamp]
      have hcc := hc5.trans hca
      have HC6 := Lib.hid (HCH.out.trans (hcc.mono (fun _ _ h => h.elim)))
      have HT6 := Lib.hid (HTO.out.new hcc)
      have hvb := (HV4.out.chg HCH.out (fun h => by omega)).chg hcc (fun x => x)
      have v0 := hvb.cell 0
      replace v0 := v0.trans (show _ = some (Value.slice (some ⟨g, 0, none⟩) 8 8) from rfl)
      obtain ⟨gf, cf, k1, k2, k3, k4, k5, k6, k7, k8⟩ := HT6.out.spot HTA.out hfi8 hpl6
      obtain ⟨Tn, hTn, hLn⟩ := k8 (k : Int)
      have HTN := Lib.hid hTn
      have HLN := Lib.hid hLn
      have HG := Lib.hid (show w2.heap.size ≤ gf ∧ gf < V from ⟨k2, k3⟩)
      have hfi1 : (0 : Int) ≤ (fi : Int) := Int.natCast_nonneg _
      have hfi2 : (fi : Int) < 8 := by omega
      have hpl1 : (0 : Int) ≤ (pl : Int) := Int.natCast_nonneg _
      have hpl2 : (pl : Int) < 6 := by omega
      have HBX := Lib.hid hbx
      have HRG := Lib.hid (tofN_range D k fi pl)
      obtain ⟨ov, hov⟩ : ∃ ov, tofN D k fi pl = ov := ⟨_, rfl⟩
      rw [hov] at k4 HRG
      have HOV := Lib.hid hov
      clear hc5 hca hcc hvb k2 k3 k6 k7 k8 hTn hLn hbx hov
      go_wp2_with fail
      obtain ⟨w6, hw6⟩ : ∃ w6, w5.alloc (.cells #[.bool true, .int .i64 (fi : Int), .int .i64 (pl : Int), .int .i64 (pgAt D k).value, .int .i64 (pgAt D k).stamp] 80) = w6 := ⟨_, rfl⟩
      obtain ⟨P0, hPe⟩ : ∃ P0, w5.heap.size = P0 := ⟨_, rfl⟩
      rw [hw6] at HBX HC6 HT6 v0 k1 k4 k5 HTN
      rw [hPe] at HBX
      rw [hw6, hPe]
      have hbx1 := HBX.out.cell 1
      have hbx2 := HBX.out.cell 2
      have hbx4 := HBX.out.cell 4
      replace hbx1 := hbx1.trans (show _ = some (Value.int .i64 (fi : Int)) from rfl)
      replace hbx2 := hbx2.trans (show _ = some (Value.int .i64 (pl : Int)) from rfl)
      replace hbx4 := hbx4.trans (show _ = some (Value.int .i64 (stampOf D k)) from rfl)
      clear hw6 hPe hf hfi hpl
      go_quiet (fail)
      go_wp2_with fail
      obtain ⟨w7, hw7⟩ : ∃ w7, w6.drewN nq = w7 := ⟨_, rfl⟩
      have HQ := Lib.hid (show Chg NoB w6 w7 by rw [← hw7]; exact (Chg.refl NoB w6).drewN _)
      have HTN7 := Lib.hid (show TabO w2.heap.size V (w7.setCell ⟨gf, pl, none⟩ (.int .i64 (k : Int))) (some ⟨g, 0, none⟩) 8 Tn by rw [← hw7]; exact HTN.out.new ((Chg.refl NoB _).drewN nq))
      rw [hw7]
      have HX4 := Lib.hid (HQ.out.cell hbx4 (fun x => x))
      have x4 := HX4.out
      have HDQ := Lib.hid ((HD4.out.chg HC6.out (fun i h1 h2 => by omega)).new HQ.out)
      have v0' := HQ.out.cell v0 (fun x => x)
      have k1' := HQ.out.cell k1 (fun x => x)
      have k4' := HQ.out.cell k4 (fun x => x)
      have k5' : w7.frozen? ⟨gf, pl, none⟩ = false := by rw [← hw7]; exact k5
      have b1' := HQ.out.cell hbx1 (fun x => x)
      have b2' := HQ.out.cell hbx2 (fun x => x)
      have HC7 := Lib.hid (HC6.out.trans (HQ.out.mono (fun _ _ h => h.elim)))
      have HV0 := Lib.hid v0'
      have HK1 := Lib.hid k1'
      have HK4 := Lib.hid k4'
      have HK5 := Lib.hid (show ∀ wq, Chg NoB w7 wq → wq.cell? ⟨gf, pl, none⟩ = some (.int .i64 ov) from fun wq hq => hq.cell HK4.out (fun x => x))
      have HB1 := Lib.hid b1'
      have HB2 := Lib.hid b2'
      clear hw7 hbx1 hbx2 hbx4 v0 k1 k4 k5 v0' k1' k4' b1' b2' k5'
      by_cases hneg : ov < 0
      · have HNX := Lib.hid (tofN_put (D := D) (n := k) (fi := fi) (pl := pl) HFU.out HFP.out.1 HFP.out.2 (.inl (by rw [HOV.out]; exact hneg)))
        refine wp_region_ro (gl := [(2, some true)]) (WInv := fun _ _ w5 => Chg NoB w7 w5) (R := Chg NoB) (Post := PV [some (.int .i64 ov), some (.bool true), some (.bool true), some (undef), some (undef), some (undef), some (undef), some (undef), some (undef), some (undef), some (.bool true)]) (by kernel_rfl) (by kernel_rfl) (pv_guard (by intro p hp; simp only [List.mem_cons, List.not_mem_nil, or_false] at hp; rcases hp with rfl <;> rfl)) (fun _ _ _ _ h _ _ => h) (fun _ _ _ _ h _ => h) (Chg.refl _ _).drew ⟨?_, ?_, ?_, ?_, ?_, ?_, ?_, ?_, ?_, ?_, ?_, trivial⟩ ?_
        · rintro kc m a w5 hkc hch hm hn
          obtain ⟨e1, -⟩ := hn
          replace e1 : a.tmps[6]?.getD undef = .int .i64 ov := e1
          exact rg_val (v := .int .i64 ov) (by simp [execOp, go_sem, e1]) rfl hch (Chg.refl _ _) rfl
        · rintro kc m a w5 hkc hch hm hn
          obtain ⟨⟨_, e1, _, rfl⟩, -⟩ := hn
          exact rg_val (v := .bool true) (by simp [execOp, go_sem, e1, hneg]) rfl hch (Chg.refl _ _) rfl
        · rintro kc m a w5 hkc hch hm hn
          obtain ⟨⟨_, e1, _, rfl⟩, -⟩ := hn
          exact rg_val (v := .bool true) (by simp [execOp, go_sem, e1]) rfl hch (Chg.refl _ _) rfl
        · rintro kc m w5 hkc hch hm
          exact ⟨hch, Chg.refl _ _, rfl⟩
        · rintro kc m w5 hkc hch hm
          exact ⟨hch, Chg.refl _ _, rfl⟩
        · rintro kc m w5 hkc hch hm
          exact ⟨hch, Chg.refl _ _, rfl⟩
        · rintro kc m w5 hkc hch hm
          exact ⟨hch, Chg.refl _ _, rfl⟩
        · rintro kc m w5 hkc hch hm
          exact ⟨hch, Chg.refl _ _, rfl⟩
        · rintro kc m w5 hkc hch hm
          exact ⟨hch, Chg.refl _ _, rfl⟩
        · rintro kc m w5 hkc hch hm
          exact ⟨hch, Chg.refl _ _, rfl⟩
        · rintro kc m a w5 hkc hch hm hn
          obtain ⟨⟨_, e1, _, rfl⟩, ⟨_, e2, _, rfl⟩, -⟩ := hn
          exact rg_val (v := .bool true) (by simp [execOp, go_sem, e1, e2]) rfl hch (Chg.refl _ _) rfl
        rintro m w2x hc2
        simp only [AllVals]
        rintro v0 _ p0 v1 _ p1 v2 _ p2 v3 _ p3 v4 _ p4 v5 _ p5 v6 _ p6 v7 _ p7 v8 _ p8 v9 _ p9 v10 _ p10
        obtain rfl := p10
        clear p0 p1 p2 p3 p4 p5 p6 p7 p8 p9
        simp only [Act.put, List.setIfInBounds_toArray, List.set_cons_succ, List.set_cons_zero]
        have HC2 := Lib.hid hc2
        clear hc2
        have HC8 := Lib.hid (HC7.out.trans (HC2.out.mono (fun _ _ h => h.elim)))
        have v0 := HC2.out.cell HV0.out (fun x => x)
        have k1 := HC2.out.cell HK1.out (fun x => x)
        have b1 := HC2.out.cell HB1.out (fun x => x)
        have b2 := HC2.out.cell HB2.out (fun x => x)
        obtain ⟨gf', cf', r1, r2, r3, r4, r5, -, -, r8⟩ := ((HT6.out.new HQ.out).new HC2.out).spot HTA.out hfi8 hpl6
        rw [k1] at r1
        injection r1 with r1
        injection r1 with r1 _ q2
        injection r1 with r1
        injection r1 with r1
        subst r1 q2
        obtain ⟨Tm, hTm, hLm⟩ := r8 (k : Int)
        have HTM := Lib.hid hTm
        have HLM := Lib.hid hLm
        clear HC2 r8 hTm hLm r2 r3 x4
        go_wp2_with fail
        go_region
        go_wp2
        go_roundw
        case rel => exact ⟨k + 1, Tm, by omega, by go_num, (HC8.out.setCell (p := ⟨gf, pl, none⟩) (.inl HG.out) _).drew, HTM.out.new (Chg.refl NoB _).drew, Lib.hid (by rw [HNX.out]; exact HLM.out)⟩
        case measure => simp [intOf]; omega
      obtain ⟨o, rfl⟩ := Int.eq_ofNat_of_zero_le (show 0 ≤ ov by omega)
      have hok : o < 4 * D.length := by have := HRG.out; omega
      have HPO := Lib.hid (show ∀ wq, Chg NoB w7 wq → Calls Try.prog 72 #[.slice A0 D.length c0, .int .i64 (o : Nat)] wq fun e w' => e = .returned (pval (pgAt D o)) ∧ Chg NoB wq w' from fun wq hq => pageAt_any _ A0 c0 D o wq (HDQ.out.new hq) HD.out hok)
      have hn0 : ¬ ((o : Int) < 0) := hneg
      by_cases hst : stampOf D o < stampOf D k
      · have HNX := Lib.hid (tofN_put (D := D) (n := k) (fi := fi) (pl := pl) HFU.out HFP.out.1 HFP.out.2 (.inr (by rw [HOV.out]; exact hst)))
        have hst' : stampOf D k > stampOf D o := hst
        refine wp_region_ro (gl := [(2, some false)]) (WInv := fun _ _ w5 => Chg NoB w7 w5) (R := Chg NoB) (Post := PV [some (.int .i64 (o : Int)), some (.bool false), some (.bool false), some (.pointer (some ⟨P0, 4, none⟩)), some (.int .i64 (stampOf D k)), some (.slice A0 D.length c0), some (.int .i64 (o : Int)), some (pval (pgAt D o)), some (.int .i64 (stampOf D o)), some (.bool true), some (.bool true)]) (by kernel_rfl) (by kernel_rfl) (pv_guard (by intro p hp; simp only [List.mem_cons, List.not_mem_nil, or_false] at hp; rcases hp with rfl <;> rfl)) (fun _ _ _ _ h _ _ => h) (fun _ _ _ _ h _ => h) (Chg.refl _ _).drew ⟨?_, ?_, ?_, ?_, ?_, ?_, ?_, ?_, ?_, ?_, ?_, trivial⟩ ?_
        · rintro kc m a w5 hkc hch hm hn
          obtain ⟨e1, -⟩ := hn
          replace e1 : a.tmps[6]?.getD undef = .int .i64 (o : Int) := e1
          exact rg_val (v := .int .i64 (o : Int)) (by simp [execOp, go_sem, e1]) rfl hch (Chg.refl _ _) rfl
        · rintro kc m a w5 hkc hch hm hn
          obtain ⟨⟨_, e1, _, rfl⟩, -⟩ := hn
          exact rg_val (v := .bool false) (by simp [execOp, go_sem, e1]) rfl hch (Chg.refl _ _) rfl
        · rintro kc m a w5 hkc hch hm hn
          obtain ⟨⟨_, e1, _, rfl⟩, -⟩ := hn
          exact rg_val (v := .bool false) (by simp [execOp, go_sem, e1]) rfl hch (Chg.refl _ _) rfl
        · rintro kc m a w5 hkc hch hm hn
          obtain ⟨e1, -⟩ := hn
          replace e1 : a.tmps[5]?.getD undef = .pointer (some ⟨P0, 0, none⟩) := e1
          exact rg_val (v := .pointer (some ⟨P0, 4, none⟩)) (by simp [execOp, go_sem, e1]) rfl hch (Chg.refl _ _) rfl
        · rintro kc m a w5 hkc hch hm hn
          obtain ⟨⟨_, e1, _, rfl⟩, -⟩ := hn
          have c0 := Chg.cell hch x4 (fun x => x)
          exact rg_val (v := .int .i64 (stampOf D k)) (by simp [execOp, go_sem, e1, c0]) rfl hch (Chg.refl _ _) rfl
        · rintro kc m a w5 hkc hch hm hn
          obtain ⟨e1, -⟩ := hn
          replace e1 : a.tmps[0]?.getD undef = .slice A0 D.length c0 := e1
          exact rg_val (v := .slice A0 D.length c0) (by simp [execOp, go_sem, e1]) rfl hch (Chg.refl _ _) rfl
        · rintro kc m a w5 hkc hch hm hn
          obtain ⟨e1, -⟩ := hn
          replace e1 : a.tmps[6]?.getD undef = .int .i64 (o : Int) := e1
          exact rg_val (v := .int .i64 (o : Int)) (by simp [execOp, go_sem, e1]) rfl hch (Chg.refl _ _) rfl
        · rintro kc m a w5 hkc hch hm hn
          obtain ⟨⟨_, e1, _, rfl⟩, ⟨_, e2, _, rfl⟩, -⟩ := hn
          refine rg_call (f := 72) (args := #[.slice A0 D.length c0, .int .i64 (o : Int)]) (by simp [go_sem, e1, e2]) rfl ?_
          refine (HPO.out _ hch).mono ?_
          rintro e w6 ⟨rfl, hc6⟩
          exact ⟨_, rfl, hch.trans hc6, hc6, rfl⟩
        · rintro kc m a w5 hkc hch hm hn
          obtain ⟨⟨_, e1, _, rfl⟩, -⟩ := hn
          exact rg_val (v := .int .i64 (stampOf D o)) (by simp [execOp, go_sem, e1, run_stamp, stampOf]) rfl hch (Chg.refl _ _) rfl
        · rintro kc m a w5 hkc hch hm hn
          obtain ⟨⟨_, e1, _, rfl⟩, ⟨_, e2, _, rfl⟩, -⟩ := hn
          exact rg_val (v := .bool true) (by simp [execOp, go_sem, e1, e2, hst']) rfl hch (Chg.refl _ _) rfl
        · rintro kc m a w5 hkc hch hm hn
          obtain ⟨⟨_, e1, _, rfl⟩, ⟨_, e2, _, rfl⟩, -⟩ := hn
          exact rg_val (v := .bool true) (by simp [execOp, go_sem, e1, e2]) rfl hch (Chg.refl _ _) rfl
        rintro m w2x hc2
        simp only [AllVals]
        rintro v0 _ p0 v1 _ p1 v2 _ p2 v3 _ p3 v4 _ p4 v5 _ p5 v6 _ p6 v7 _ p7 v8 _ p8 v9 _ p9 v10 _ p10
        obtain rfl := p10
        clear p0 p1 p2 p3 p4 p5 p6 p7 p8 p9
        simp only [Act.put, List.setIfInBounds_toArray, List.set_cons_succ, List.set_cons_zero]
        have HC2 := Lib.hid hc2
        clear hc2
        have HC8 := Lib.hid (HC7.out.trans (HC2.out.mono (fun _ _ h => h.elim)))
        have v0 := HC2.out.cell HV0.out (fun x => x)
        have k1 := HC2.out.cell HK1.out (fun x => x)
        have b1 := HC2.out.cell HB1.out (fun x => x)
        have b2 := HC2.out.cell HB2.out (fun x => x)
        obtain ⟨gf', cf', r1, r2, r3, r4, r5, -, -, r8⟩ := ((HT6.out.new HQ.out).new HC2.out).spot HTA.out hfi8 hpl6
        rw [k1] at r1
        injection r1 with r1
        injection r1 with r1 _ q2
        injection r1 with r1
        injection r1 with r1
        subst r1 q2
        obtain ⟨Tm, hTm, hLm⟩ := r8 (k : Int)
        have HTM := Lib.hid hTm
        have HLM := Lib.hid hLm
        clear HC2 r8 hTm hLm r2 r3 x4
        go_wp2_with fail
        go_region
        go_wp2
        go_roundw
        case rel => exact ⟨k + 1, Tm, by omega, by go_num, (HC8.out.setCell (p := ⟨gf, pl, none⟩) (.inl HG.out) _).drew, HTM.out.new (Chg.refl NoB _).drew, Lib.hid (by rw [HNX.out]; exact HLM.out)⟩
        case measure => simp [intOf]; omega
      have HNX := Lib.hid (tofN_keep (D := D) (n := k) (fi := fi) (pl := pl) HFP.out.1 HFP.out.2 (by rw [HOV.out]; intro hh; rcases hh with hh | hh; exact hneg hh; exact hst hh))
      have hst' : ¬ stampOf D k > stampOf D o := hst
      refine wp_region_ro (gl := [(2, some false)]) (WInv := fun _ _ w5 => Chg NoB w7 w5) (R := Chg NoB) (Post := PV [some (.int .i64 (o : Int)), some (.bool false), some (.bool false), some (.pointer (some ⟨P0, 4, none⟩)), some (.int .i64 (stampOf D k)), some (.slice A0 D.length c0), some (.int .i64 (o : Int)), some (pval (pgAt D o)), some (.int .i64 (stampOf D o)), some (.bool false), some (.bool false)]) (by kernel_rfl) (by kernel_rfl) (pv_guard (by intro p hp; simp only [List.mem_cons, List.not_mem_nil, or_false] at hp; rcases hp with rfl <;> rfl)) (fun _ _ _ _ h _ _ => h) (fun _ _ _ _ h _ => h) (Chg.refl _ _).drew ⟨?_, ?_, ?_, ?_, ?_, ?_, ?_, ?_, ?_, ?_, ?_, trivial⟩ ?_
      · rintro kc m a w5 hkc hch hm hn
        obtain ⟨e1, -⟩ := hn
        replace e1 : a.tmps[6]?.getD undef = .int .i64 (o : Int) := e1
        exact rg_val (v := .int .i64 (o : Int)) (by simp [execOp, go_sem, e1]) rfl hch (Chg.refl _ _) rfl
      · rintro kc m a w5 hkc hch hm hn
        obtain ⟨⟨_, e1, _, rfl⟩, -⟩ := hn
        exact rg_val (v := .bool false) (by simp [execOp, go_sem, e1]) rfl hch (Chg.refl _ _) rfl
      · rintro kc m a w5 hkc hch hm hn
        obtain ⟨⟨_, e1, _, rfl⟩, -⟩ := hn
        exact rg_val (v := .bool false) (by simp [execOp, go_sem, e1]) rfl hch (Chg.refl _ _) rfl
      · rintro kc m a w5 hkc hch hm hn
        obtain ⟨e1, -⟩ := hn
        replace e1 : a.tmps[5]?.getD undef = .pointer (some ⟨P0, 0, none⟩) := e1
        exact rg_val (v := .pointer (some ⟨P0, 4, none⟩)) (by simp [execOp, go_sem, e1]) rfl hch (Chg.refl _ _) rfl
      · rintro kc m a w5 hkc hch hm hn
        obtain ⟨⟨_, e1, _, rfl⟩, -⟩ := hn
        have c0 := Chg.cell hch x4 (fun x => x)
        exact rg_val (v := .int .i64 (stampOf D k)) (by simp [execOp, go_sem, e1, c0]) rfl hch (Chg.refl _ _) rfl
      · rintro kc m a w5 hkc hch hm hn
        obtain ⟨e1, -⟩ := hn
        replace e1 : a.tmps[0]?.getD undef = .slice A0 D.length c0 := e1
        exact rg_val (v := .slice A0 D.length c0) (by simp [execOp, go_sem, e1]) rfl hch (Chg.refl _ _) rfl
      · rintro kc m a w5 hkc hch hm hn
        obtain ⟨e1, -⟩ := hn
        replace e1 : a.tmps[6]?.getD undef = .int .i64 (o : Int) := e1
        exact rg_val (v := .int .i64 (o : Int)) (by simp [execOp, go_sem, e1]) rfl hch (Chg.refl _ _) rfl
      · rintro kc m a w5 hkc hch hm hn
        obtain ⟨⟨_, e1, _, rfl⟩, ⟨_, e2, _, rfl⟩, -⟩ := hn
        refine rg_call (f := 72) (args := #[.slice A0 D.length c0, .int .i64 (o : Int)]) (by simp [go_sem, e1, e2]) rfl ?_
        refine (HPO.out _ hch).mono ?_
        rintro e w6 ⟨rfl, hc6⟩
        exact ⟨_, rfl, hch.trans hc6, hc6, rfl⟩
      · rintro kc m a w5 hkc hch hm hn
        obtain ⟨⟨_, e1, _, rfl⟩, -⟩ := hn
        exact rg_val (v := .int .i64 (stampOf D o)) (by simp [execOp, go_sem, e1, run_stamp, stampOf]) rfl hch (Chg.refl _ _) rfl
      · rintro kc m a w5 hkc hch hm hn
        obtain ⟨⟨_, e1, _, rfl⟩, ⟨_, e2, _, rfl⟩, -⟩ := hn
        exact rg_val (v := .bool false) (by simp [execOp, go_sem, e1, e2, hst']) rfl hch (Chg.refl _ _) rfl
      · rintro kc m a w5 hkc hch hm hn
        obtain ⟨⟨_, e1, _, rfl⟩, ⟨_, e2, _, rfl⟩, -⟩ := hn
        exact rg_val (v := .bool false) (by simp [execOp, go_sem, e1, e2]) rfl hch (Chg.refl _ _) rfl
      rintro m w2x hc2
      simp only [AllVals]
      rintro v0 _ p0 v1 _ p1 v2 _ p2 v3 _ p3 v4 _ p4 v5 _ p5 v6 _ p6 v7 _ p7 v8 _ p8 v9 _ p9 v10 _ p10
      obtain rfl := p10
      clear p0 p1 p2 p3 p4 p5 p6 p7 p8 p9
      simp only [Act.put, List.setIfInBounds_toArray, List.set_cons_succ, List.set_cons_zero]
      have HC2 := Lib.hid hc2
      clear hc2
      have HC8 := Lib.hid (HC7.out.trans (HC2.out.mono (fun _ _ h => h.elim)))
      have HT8 := Lib.hid ((HT6.out.new HQ.out).new HC2.out)
      clear HC2 x4
      go_wp2
      go_roundw
      case rel => exact ⟨k + 1, Ta, by omega, by go_num, HC8.out, HT8.out, Lib.hid (by rw [HNX.out]; exact HTA.out)⟩
      case measure => simp [intOf]; omega
end Go.Proofs.Ytpiojofmflfkkaa
/- TableOf of the reference. -/
namespace Go.Proofs.Ytpiojofmflfkkaa
open Go.RowKit
theorem tofN_full (D : List Bk) (n : Nat) : ∀ f p, 0 ≤ tofN D n f p → (pgAt D (tofN D n f p).toNat).full = true := by
  induction n with
  | zero => intro f p h; simp [tofN] at h
  | succ n ih =>
    intro f p h
    rw [tofN_succ] at h ⊢
    split at h
    · rename_i hc
      rw [if_pos hc]
      unfold upd2 at h ⊢
      split at h
      · rename_i he
        rw [if_pos he, Int.toNat_natCast]
        exact hc.1
      · rename_i he
        rw [if_neg he]
        exact ih f p h
    · rename_i hc
      rw [if_neg hc]
      exact ih f p h
set_option maxRecDepth 100000 in
set_option maxHeartbeats 8000000 in
theorem sTableOf_any (F : Nat → Prop) (A0 : Option Addr) (c0 : Nat) (D : List Bk) (w : World) (hr : DevR F w A0 D) (hs : Small D) :
    Calls Try.prog 67 #[.slice A0 D.length c0] w (RollP w (tableOf D)) := by
  have hca := (Chg.refl NoB w).alloc (.cells #[.slice none 0 0] 31)
  have HB := Lib.hid (Blk.new w 31 #[.slice none 0 0])
  have HC0 := Lib.hid hca
  have HD0 := Lib.hid (show DevR (fun i => i < w.heap.size) _ A0 D from (hr.lt.mono (G := fun i => i < w.heap.size) fun i _ hi => hi.2).new hca)
  have HS := Lib.hid hs
  clear hca hr hs
  by_cases hd : DvOk D
  case neg =>
    have HD := Lib.hid hd
    have HE := Lib.hid (show tableOf D = [] from if_neg hd)
    clear hd
    go_enter Try.func67, Try.ntmps67
    go_wp2_with fail
    refine (sDeviceValid_f _ A0 c0 D _ HD0.out HS.out HD.out).mono ?_
    rintro e w1 ⟨rfl, hc1⟩
    have hb2 := HB.out.chg hc1 (fun x => x)
    have r0 : w1.cell? ⟨w.heap.size, 0, none⟩ = some (.slice none 0 0) := (hb2.cell _).trans rfl
    have rf0 := hb2.frozen 0
    have HC1 := Lib.hid (HC0.out.trans hc1)
    clear hc1 hb2
    go_wp2_with fail
    (try simp only [Exit.inBlock, Exit.then])
    refine bodyPost_ret (v := .agg #[.slice none 0 0]) (by simp [results, Try.results67, go_sem, *]) rfl ?_
    unfold RollP
    rw [HE.out]
    exact ⟨none, 0, [], rfl, rfl, HC1.out.own ((Chg.refl (· = w.heap.size) w1).setCell (p := ⟨w.heap.size, 0, none⟩) (.inl rfl) _) (Nat.le_refl _), TabO.nil _ _ _ _ _⟩
  have HD := Lib.hid hd
  have HE := Lib.hid (show tableOf D = tabF (tofN D (4 * D.length)) from if_pos hd)
  have h1 := hd.1.1
  have h2 := hd.1.2
  clear hd
  go_enter Try.func67, Try.ntmps67
  go_wp2_with fail
  refine (sDeviceValid_t _ A0 c0 D _ HD0.out HD.out).mono ?_
  rintro e w2 ⟨rfl, hc1⟩
  have HB2 := Lib.hid (HB.out.chg hc1 (fun x => x))
  have HD2 := Lib.hid (HD0.out.new hc1)
  have HC2 := Lib.hid (HC0.out.trans hc1)
  clear hc1 HB HD0 HC0
  go_wp2_with fail
  refine (l7New_any _).mono ?_
  rintro e w3 ⟨A', c', T, rfl, hT, hc3, hO⟩
  have hT8 : T.length = 8 := by rw [← listsOf_length, hT]; rfl
  obtain ⟨g, hAg⟩ : ∃ g, A' = some ⟨g, 0, none⟩ := by
    rcases hO.1.2 with ⟨h0, _⟩ | ⟨g, rest, he, _⟩
    · omega
    · exact ⟨g, he⟩
  subst hAg
  have hca := (Chg.refl NoB w3).alloc (.cells #[.slice (some ⟨g, 0, none⟩) 8 c'] 31)
  have HC4 := Lib.hid ((HC2.out.trans hc3).trans hca)
  have HB4 := Lib.hid ((HB2.out.chg hc3 (fun x => x)).chg hca (fun x => x))
  have HV4 := Lib.hid (Blk.new w3 31 #[.slice (some ⟨g, 0, none⟩) 8 c'])
  have HD4 := Lib.hid ((HD2.out.new hc3).new hca)
  have HT4 := Lib.hid (hO.new hca)
  have HTT := Lib.hid (show listsOf T = tabF (tofN D 0) by rw [hT, emptyRows_tabF]; rfl)
  have HSZ := Lib.hid (show (w3.alloc (.cells #[.slice (some ⟨g, 0, none⟩) 8 c'] 31)).heap.size = w3.heap.size + 1 by rw [World.size_alloc])
  have HS2 := Lib.hid (show w.heap.size < w2.heap.size from HB2.out.lt)
  have HS3 := Lib.hid hc3.size
  clear hT hO hc3 hca HD2 HC2 HB2 hT8
  go_wp2_with fail
  obtain ⟨w4, hw4⟩ : ∃ w4, w3.alloc (.cells #[.slice (some ⟨g, 0, none⟩) 8 c'] 31) = w4 := ⟨_, rfl⟩
  obtain ⟨V, hV⟩ : ∃ V, w3.heap.size = V := ⟨_, rfl⟩
  have hVz := HSZ.out
  have hVs := HS3.out
  rw [hw4] at HC4 HB4 HV4 HD4 HT4 hVz ⊢
  rw [hV] at HV4 HT4 hVz hVs ⊢
  have HVS := Lib.hid hVs
  have HVZ := Lib.hid hVz
  clear hV hVz hVs HSZ HS3 hw4
  go_loopw [4] (fun i wr => ∃ (k : Nat) (T : List RowO), k ≤ 4 * D.length ∧ i = .int .i64 k ∧ Chg (fun i => w2.heap.size ≤ i ∧ i < V) w4 wr ∧ TabO w2.heap.size V wr (some ⟨g, 0, none⟩) c' T ∧ Hid (listsOf T = tabF (tofN D k))) (fun i _ => 4 * D.length - (intOf i).toNat)
  case atStart => exact ⟨0, T, Nat.zero_le _, rfl, Chg.refl _ _, HT4.out, HTT⟩
  case round =>
    obtain ⟨wa, hwa⟩ : ∃ wa, wa = wr := ⟨_, rfl⟩
    rw [← hwa] at hrel ⊢
    obtain ⟨k, Ta, hk, rfl, hch, hta, HTA⟩ := hrel
    clear hwa
    have HCH := Lib.hid hch
    have HTO := Lib.hid hta
    have hs2 := HS2.out
    have hvs := HVS.out
    by_cases hlt : k < 4 * D.length
    case neg =>
      have hlt' : ¬ ((k : Int) < 4 * (D.length : Int)) := by omega
      obtain rfl : k = 4 * D.length := by omega
      have hvb := HV4.out.chg hch (fun h => by omega)
      have v0 : wa.cell? ⟨V, 0, none⟩ = some (.slice (some ⟨g, 0, none⟩) 8 c') := (hvb.cell _).trans rfl
      have hb := HB4.out.chg hch (fun h => by omega)
      have r0 : wa.cell? ⟨w.heap.size, 0, none⟩ = some (.slice none 0 0) := (hb.cell _).trans rfl
      have rf0 := hb.frozen 0
      have HVL := Lib.hid hvb.lt
      clear hch hta hvb hb
      go_wp2_with fail
      (try simp only [Exit.inBlock, Exit.then])
      refine bodyPost_ret (v := .agg #[.slice (some ⟨g, 0, none⟩) 8 c']) (by simp [results, Try.results67, go_sem, *]) rfl ?_
      have hTe := HTA.out
      rw [← HE.out] at hTe
      have hcs := (Chg.refl (· = w.heap.size) wa).setCell (p := ⟨w.heap.size, 0, none⟩) (.inl rfl) (.slice (some ⟨g, 0, none⟩) 8 c')
      refine ⟨some ⟨g, 0, none⟩, c', Ta, by rw [HE.out, tabF_len], hTe, (HC4.out.trans' HCH.out (fun i hi => .inr (by omega))).own hcs (Nat.le_refl _), (HTO.out.chg hcs (fun i h1 h2 h3 => by have h4 : i = w.heap.size := h3; omega)).more (by omega) (by have := HVL.out; rw [World.size_setCell]; omega)⟩
    have hi0 : (0 : Int) ≤ (k : Int) := Int.natCast_nonneg _
    have hi1 : (k : Int) < 4 * (D.length : Int) := by omega
    have HLT := Lib.hid hlt
    have HDA := Lib.hid (HD4.out.chg hch (fun i h1 h2 => by omega))
    clear hch hta
    have HRK := Lib.hid (readPage_yes HD.out HLT.out)
    go_wp2_with fail
    refine (sReadPage_any _ A0 c0 D (k : Int) _ HDA.out HS.out).mono ?_
    rw [HRK.out]
    rintro e w5 ⟨rfl, hc5⟩
    cases hf : (pgAt D k).full with
    | false =>
      have HNX := Lib.hid (tofN_free hf)
      have HC5 := Lib.hid (HCH.out.trans (hc5.mono (fun _ _ h => h.elim)))
      have HT5 := Lib.hid (HTO.out.new hc5)
      clear hc5
      go_wp2
      go_roundw
      case rel => exact ⟨k + 1, Ta, by omega, by go_num, HC5.out.alloc _, HT5.out.new ((Chg.refl NoB _).alloc _), Lib.hid (by rw [HNX.out]; exact HTA.out)⟩
      case measure => simp [intOf]; omega
    | true =>
      obtain ⟨fi, pl, hfi, hpl, hfi8, hpl6⟩ := page_places HD.out hlt hf
      have HFP := Lib.hid (And.intro hfi hpl)
      have HFU := Lib.hid hf
      have hca := (Chg.refl NoB w5).alloc (.cells #[.bool true, .int .i64 (fi : Int), .int .i64 (pl : Int), .int .i64 (pgAt D k).value, .int .i64 (pgAt D k).stamp] 80)
      have hbx := Blk.new w5 80 #[.bool true, .int .i64 (fi : Int), .int .i64 (pl : Int), .int .i64 (pgAt D k).value, .int .i64 (pgAt D k).stamp]
      have hcc := hc5.trans hca
      have HC6 := Lib.hid (HCH.out.trans (hcc.mono (fun _ _ h => h.elim)))
      have HT6 := Lib.hid (HTO.out.new hcc)
      have hvb := (HV4.out.chg HCH.out (fun h => by omega)).chg hcc (fun x => x)
      have v0 := hvb.cell 0
      replace v0 := v0.trans (show _ = some (Value.slice (some ⟨g, 0, none⟩) 8 c') from rfl)
      obtain ⟨gf, cf, k1, k2, k3, k4, -, -, -, -⟩ := HT6.out.spot HTA.out hfi8 hpl6
      have HG := Lib.hid (show w2.heap.size ≤ gf ∧ gf < V from ⟨k2, k3⟩)
      have hfi1 : (0 : Int) ≤ (fi : Int) := Int.natCast_nonneg _
      have hfi2 : (fi : Int) < 8 := by omega
      have hpl1 : (0 : Int) ≤ (pl : Int) := Int.natCast_nonneg _
      have hpl2 : (pl : Int) < 6 := by omega
      have HBX := Lib.hid hbx
      have HRG := Lib.hid (tofN_range D k fi pl)
      have HFUL := Lib.hid (tofN_full D k fi pl)
      obtain ⟨ov, hov⟩ : ∃ ov, tofN D k fi pl = ov := ⟨_, rfl⟩
      rw [hov] at k4 HRG HFUL
      have HOV := Lib.hid hov
      clear hc5 hca hcc hvb k2 k3 hbx hov
      go_wp2_with fail
      obtain ⟨w6, hw6⟩ : ∃ w6, w5.alloc (.cells #[.bool true, .int .i64 (fi : Int), .int .i64 (pl : Int), .int .i64 (pgAt D k).value, .int .i64 (pgAt D k).stamp] 80) = w6 := ⟨_, rfl⟩
      obtain ⟨P0, hPe⟩ : ∃ P0, w5.heap.size = P0 := ⟨_, rfl⟩
      rw [hw6] at HBX HC6 HT6 v0 k1 k4
      rw [hPe] at HBX
      rw [hw6, hPe]
      have hbx1 := HBX.out.cell 1
      have hbx2 := HBX.out.cell 2
      have hbx4 := HBX.out.cell 4
      replace hbx1 := hbx1.trans (show _ = some (Value.int .i64 (fi : Int)) from rfl)
      replace hbx2 := hbx2.trans (show _ = some (Value.int .i64 (pl : Int)) from rfl)
      replace hbx4 := hbx4.trans (show _ = some (Value.int .i64 (stampOf D k)) from rfl)
      have HDQ := Lib.hid (HD4.out.chg HC6.out (fun i h1 h2 => by omega))
      obtain ⟨rp, hrp⟩ : ∃ rp, readPage D ov = rp := ⟨_, rfl⟩
      have HRP := Lib.hid (show ∀ wq, Chg NoB w6 wq → Calls Try.prog 111 #[.slice A0 D.length c0, .int .i64 ov] wq fun e w' => e = .returned (.tuple #[pval rp, .bool rp.full]) ∧ Chg NoB wq w' from fun wq hq => by rw [← hrp]; exact sReadPage_any _ A0 c0 D ov wq (HDQ.out.new hq) HS.out)
      have HRPE := Lib.hid hrp
      clear hw6 hPe hf hfi hpl hrp
      refine wp_region_rg (WInv := fun _ m w5 => Chg NoB w6 w5 ∧ BoxI w6.heap.size 80 #[.bool false, .int .i64 0, .int .i64 0, .int .i64 0, .int .i64 0] 15 16 13 m w5) (R := RBox NoB w6.heap.size 80) (Post := PL [fun v _ => v = .slice A0 D.length c0, fun v _ => v = .pointer (some ⟨V, 0, none⟩), fun v _ => v = .slice (some ⟨g, 0, none⟩) 8 c', fun v _ => v = .pointer (some ⟨P0, 1, none⟩), fun v _ => v = .int .i64 (fi : Int), fun v _ => v = .pointer (some ⟨g, fi, none⟩), fun v _ => v = .slice (some ⟨gf, 0, none⟩) 6 cf, fun v _ => v = .pointer (some ⟨P0, 2, none⟩), fun v _ => v = .int .i64 (pl : Int), fun v _ => v = .pointer (some ⟨gf, pl, none⟩), fun v _ => v = .int .i64 ov, fun v _ => v = .tuple #[pval rp, .bool rp.full], fun v _ => v = .tuple #[pval rp, .bool rp.full], fun v _ => v = pval rp, fun v _ => v = .bool rp.full, fun _ _ => True, fun _ _ => True, fun v _ => v = .bool rp.full]) (by kernel_rfl) (by kernel_rfl) (fun _ _ _ _ h _ _ => h) (pl_stab ⟨(fun _ _ _ h _ => h), (fun _ _ _ h _ => h), (fun _ _ _ h _ => h), (fun _ _ _ h _ => h), (fun _ _ _ h _ => h), (fun _ _ _ h _ => h), (fun _ _ _ h _ => h), (fun _ _ _ h _ => h), (fun _ _ _ h _ => h), (fun _ _ _ h _ => h), (fun _ _ _ h _ => h), (fun _ _ _ h _ => h), (fun _ _ _ h _ => h), (fun _ _ _ h _ => h), (fun _ _ _ h _ => h), (fun _ _ _ _ _ => trivial), (fun _ _ _ _ _ => trivial), (fun _ _ _ h _ => h), trivial⟩) ⟨(Chg.refl _ _).drew, BoxI.start⟩ ⟨?_, ?_, ?_, ?_, ?_, ?_, ?_, ?_, ?_, ?_, ?_, ?_, ?_, ?_, ?_, ?_, ?_, ?_, trivial⟩ ?_
      · rintro kc m a w5 hkc ⟨hch, hbx⟩ hm hn
        have e1 : a.tmps[0]?.getD undef = .slice A0 D.length c0 := hn.1
        exact rg_val (v := .slice A0 D.length c0) (by simp [execOp, go_sem, e1]) rfl ⟨hch, hbx.keep (by decide) (by decide) hm (Chg.refl NoB _) (fun _ _ x => x)⟩ (Chg.refl _ _) rfl
      · rintro kc m a w5 hkc ⟨hch, hbx⟩ hm hn
        have e1 : a.tmps[3]?.getD undef = .pointer (some ⟨V, 0, none⟩) := hn.1
        exact rg_val (v := .pointer (some ⟨V, 0, none⟩)) (by simp [execOp, go_sem, e1]) rfl ⟨hch, hbx.keep (by decide) (by decide) hm (Chg.refl NoB _) (fun _ _ x => x)⟩ (Chg.refl _ _) rfl
      · rintro kc m a w5 hkc ⟨hch, hbx⟩ hm hn
        obtain ⟨⟨_, e1, _, rfl⟩, -⟩ := hn
        have c0 := Chg.cell hch v0 (fun x => x)
        exact rg_val (v := .slice (some ⟨g, 0, none⟩) 8 c') (by simp [execOp, go_sem, e1, c0]) rfl ⟨hch, hbx.keep (by decide) (by decide) hm (Chg.refl NoB _) (fun _ _ x => x)⟩ (Chg.refl _ _) rfl
      · rintro kc m a w5 hkc ⟨hch, hbx⟩ hm hn
        have e1 : a.tmps[5]?.getD undef = .pointer (some ⟨P0, 0, none⟩) := hn.1
        exact rg_val (v := .pointer (some ⟨P0, 1, none⟩)) (by simp [execOp, go_sem, e1]) rfl ⟨hch, hbx.keep (by decide) (by decide) hm (Chg.refl NoB _) (fun _ _ x => x)⟩ (Chg.refl _ _) rfl
      · rintro kc m a w5 hkc ⟨hch, hbx⟩ hm hn
        obtain ⟨⟨_, e1, _, rfl⟩, -⟩ := hn
        have c0 := Chg.cell hch hbx1 (fun x => x)
        exact rg_val (v := .int .i64 (fi : Int)) (by simp [execOp, go_sem, e1, c0]) rfl ⟨hch, hbx.keep (by decide) (by decide) hm (Chg.refl NoB _) (fun _ _ x => x)⟩ (Chg.refl _ _) rfl
      · rintro kc m a w5 hkc ⟨hch, hbx⟩ hm hn
        obtain ⟨⟨_, e1, _, rfl⟩, ⟨_, e2, _, rfl⟩, -⟩ := hn
        exact rg_val (v := .pointer (some ⟨g, fi, none⟩)) (by simp [execOp, go_sem, e1, e2]; exact fun hh => absurd hh (by omega)) rfl ⟨hch, hbx.keep (by decide) (by decide) hm (Chg.refl NoB _) (fun _ _ x => x)⟩ (Chg.refl _ _) rfl
      · rintro kc m a w5 hkc ⟨hch, hbx⟩ hm hn
        obtain ⟨⟨_, e1, _, rfl⟩, -⟩ := hn
        have c0 := Chg.cell hch k1 (fun x => x)
        exact rg_val (v := .slice (some ⟨gf, 0, none⟩) 6 cf) (by simp [execOp, go_sem, e1, c0]) rfl ⟨hch, hbx.keep (by decide) (by decide) hm (Chg.refl NoB _) (fun _ _ x => x)⟩ (Chg.refl _ _) rfl
      · rintro kc m a w5 hkc ⟨hch, hbx⟩ hm hn
        have e1 : a.tmps[5]?.getD undef = .pointer (some ⟨P0, 0, none⟩) := hn.1
        exact rg_val (v := .pointer (some ⟨P0, 2, none⟩)) (by simp [execOp, go_sem, e1]) rfl ⟨hch, hbx.keep (by decide) (by decide) hm (Chg.refl NoB _) (fun _ _ x => x)⟩ (Chg.refl _ _) rfl
      · rintro kc m a w5 hkc ⟨hch, hbx⟩ hm hn
        obtain ⟨⟨_, e1, _, rfl⟩, -⟩ := hn
        have c0 := Chg.cell hch hbx2 (fun x => x)
        exact rg_val (v := .int .i64 (pl : Int)) (by simp [execOp, go_sem, e1, c0]) rfl ⟨hch, hbx.keep (by decide) (by decide) hm (Chg.refl NoB _) (fun _ _ x => x)⟩ (Chg.refl _ _) rfl
      · rintro kc m a w5 hkc ⟨hch, hbx⟩ hm hn
        obtain ⟨⟨_, e1, _, rfl⟩, ⟨_, e2, _, rfl⟩, -⟩ := hn
        exact rg_val (v := .pointer (some ⟨gf, pl, none⟩)) (by simp [execOp, go_sem, e1, e2]; exact fun hh => absurd hh (by omega)) rfl ⟨hch, hbx.keep (by decide) (by decide) hm (Chg.refl NoB _) (fun _ _ x => x)⟩ (Chg.refl _ _) rfl
      · rintro kc m a w5 hkc ⟨hch, hbx⟩ hm hn
        obtain ⟨⟨_, e1, _, rfl⟩, -⟩ := hn
        have c0 := Chg.cell hch k4 (fun x => x)
        exact rg_val (v := .int .i64 ov) (by simp [execOp, go_sem, e1, c0]) rfl ⟨hch, hbx.keep (by decide) (by decide) hm (Chg.refl NoB _) (fun _ _ x => x)⟩ (Chg.refl _ _) rfl
      · rintro kc m a w5 hkc ⟨hch, hbx⟩ hm hn
        obtain ⟨⟨_, e1, _, rfl⟩, ⟨_, e2, _, rfl⟩, -⟩ := hn
        refine rg_call (f := 111) (args := #[.slice A0 D.length c0, .int .i64 ov]) (by simp [go_sem, e1, e2]) rfl ?_
        refine (HRP.out _ hch).mono ?_
        rintro e w9 ⟨rfl, hc9⟩
        exact ⟨_, rfl, ⟨hch.trans hc9, hbx.keep (by decide) (by decide) hm hc9 (fun _ _ x => x)⟩, RBox.of hc9 (fun _ x => x), rfl⟩
      · rintro kc m a w5 hkc ⟨hch, hbx⟩ hm hn
        obtain ⟨⟨_, e1, _, rfl⟩, -⟩ := hn
        exact rg_val (v := .tuple #[pval rp, .bool rp.full]) (by simp [execOp, go_sem, e1]) rfl ⟨hch, hbx.keep (by decide) (by decide) hm (Chg.refl NoB _) (fun _ _ x => x)⟩ (Chg.refl _ _) rfl
      · rintro kc m a w5 hkc ⟨hch, hbx⟩ hm hn
        obtain ⟨⟨_, e1, _, rfl⟩, -⟩ := hn
        exact rg_val (v := pval rp) (by simp [execOp, go_sem, e1]) rfl ⟨hch, hbx.keep (by decide) (by decide) hm (Chg.refl NoB _) (fun _ _ x => x)⟩ (Chg.refl _ _) rfl
      · rintro kc m a w5 hkc ⟨hch, hbx⟩ hm hn
        obtain ⟨⟨_, e1, _, rfl⟩, -⟩ := hn
        exact rg_val (v := .bool rp.full) (by simp [execOp, go_sem, e1]) rfl ⟨hch, hbx.keep (by decide) (by decide) hm (Chg.refl NoB _) (fun _ _ x => x)⟩ (Chg.refl _ _) rfl
      · rintro kc m a w5 hkc ⟨hch, hbx⟩ hm hn
        have hca : Chg NoB w5 (w5.alloc (.cells #[.bool false, .int .i64 0, .int .i64 0, .int .i64 0, .int .i64 0] 80)) := (Chg.refl _ _).alloc _
        exact rg_val (v := .pointer (some ⟨w5.heap.size, 0, none⟩)) (w' := w5.alloc (.cells #[.bool false, .int .i64 0, .int .i64 0, .int .i64 0, .int .i64 0] 80)) (by simp [execOp, go_sem]) rfl ⟨hch.alloc _, hbx.alloc (by decide) hm hch.size⟩ (RBox.of hca (fun _ x => x.elim)) trivial
      · rintro kc m a w5 hkc ⟨hch, hbx⟩ hm hn
        obtain ⟨⟨p, e1, hma, _⟩, ⟨v5, e2, hmv, hv5⟩, -⟩ := hn
        obtain rfl : v5 = pval rp := hv5
        obtain ⟨bx, rfl, hB, hb⟩ := hbx.ready hm hma
        have f0 := hb.frozen 0
        have f1 := hb.frozen 1
        have f2 := hb.frozen 2
        have f3 := hb.frozen 3
        have f4 := hb.frozen 4
        have x0 : w5.cell? ⟨bx, 0, none⟩ = some (.bool false) := (hb.cell _).trans rfl
        have x1 : w5.cell? ⟨bx, 1, none⟩ = some (.int .i64 0) := (hb.cell _).trans rfl
        have x2 : w5.cell? ⟨bx, 2, none⟩ = some (.int .i64 0) := (hb.cell _).trans rfl
        have x3 : w5.cell? ⟨bx, 3, none⟩ = some (.int .i64 0) := (hb.cell _).trans rfl
        have x4 : w5.cell? ⟨bx, 4, none⟩ = some (.int .i64 0) := (hb.cell _).trans rfl
        have hst : Chg (· = bx) w5 (((((w5.setCell ⟨bx, 0, none⟩ (.bool rp.full)).setCell ⟨bx, 1, none⟩ (.int .i64 rp.file)).setCell ⟨bx, 2, none⟩ (.int .i64 rp.place)).setCell ⟨bx, 3, none⟩ (.int .i64 rp.value)).setCell ⟨bx, 4, none⟩ (.int .i64 rp.stamp)) := ((((((Chg.refl (· = bx) w5).setCell (p := ⟨bx, 0, none⟩) (.inl rfl) _).setCell (p := ⟨bx, 1, none⟩) (.inl rfl) _).setCell (p := ⟨bx, 2, none⟩) (.inl rfl) _).setCell (p := ⟨bx, 3, none⟩) (.inl rfl) _).setCell (p := ⟨bx, 4, none⟩) (.inl rfl) _)
        have hb' : Blk (((((w5.setCell ⟨bx, 0, none⟩ (.bool rp.full)).setCell ⟨bx, 1, none⟩ (.int .i64 rp.file)).setCell ⟨bx, 2, none⟩ (.int .i64 rp.place)).setCell ⟨bx, 3, none⟩ (.int .i64 rp.value)).setCell ⟨bx, 4, none⟩ (.int .i64 rp.stamp)) bx 80 #[.bool rp.full, .int .i64 rp.file, .int .i64 rp.place, .int .i64 rp.value, .int .i64 rp.stamp] := (((((hb.set_ 0 _).set_ 1 _).set_ 2 _).set_ 3 _).set_ 4 _)
        exact rg_skip (w' := (((((w5.setCell ⟨bx, 0, none⟩ (.bool rp.full)).setCell ⟨bx, 1, none⟩ (.int .i64 rp.file)).setCell ⟨bx, 2, none⟩ (.int .i64 rp.place)).setCell ⟨bx, 3, none⟩ (.int .i64 rp.value)).setCell ⟨bx, 4, none⟩ (.int .i64 rp.stamp))) (by simp [execOp, go_sem, e1, e2, x0, x1, x2, x3, x4, f0, f1, f2, f3, f4]) rfl ⟨hch.own hst hB, BoxI.store (by decide) (by decide) hma hB hmv hb'⟩ (RBox.box hst hB hb) trivial
      · rintro kc m a w5 hkc ⟨hch, hbx⟩ hm hn
        obtain ⟨⟨_, e1, _, rfl⟩, -⟩ := hn
        exact rg_val (v := .bool rp.full) (by simp [execOp, go_sem, e1]) rfl ⟨hch, hbx.keep (by decide) (by decide) hm (Chg.refl NoB _) (fun _ _ x => x)⟩ (Chg.refl _ _) rfl
      rintro m w7 ⟨hch7, hbx⟩
      simp only [AllVals]
      rintro rv0 m0 p0 rv1 m1 p1 rv2 m2 p2 rv3 m3 p3 rv4 m4 p4 rv5 m5 p5 rv6 m6 p6 rv7 m7 p7 rv8 m8 p8 rv9 m9 p9 rv10 m10 p10 rv11 m11 p11 rv12 m12 p12 rv13 m13 p13 rv14 m14 p14 rv15 m15 p15 rv16 m16 p16 rv17 m17 p17
      obtain rfl := p13
      obtain rfl := p17
      obtain ⟨P1, rfl, hP1, hb1⟩ := hbx.done m15 m16 m13
      have hbb : Blk w7 P1 80 #[.bool rp.full, .int .i64 rp.file, .int .i64 rp.place, .int .i64 rp.value, .int .i64 rp.stamp] := hb1
      clear hb1 hbx p0 p1 p2 p3 p4 p5 p6 p7 p8 p9 p10 p11 p12 p14 p15 p16
      simp only [Act.put, List.setIfInBounds_toArray, List.set_cons_succ, List.set_cons_zero]
      have HC7 := Lib.hid (HC6.out.trans (hch7.mono (fun _ _ h => h.elim)))
      have HT7 := Lib.hid (HT6.out.new hch7)
      have x4 := hch7.cell hbx4 (fun x => x)
      have y4 := hbb.cell 4
      replace y4 := y4.trans (show _ = some (Value.int .i64 rp.stamp) from rfl)
      have v0' := hch7.cell v0 (fun x => x)
      have b1' := hch7.cell hbx1 (fun x => x)
      have b2' := hch7.cell hbx2 (fun x => x)
      obtain ⟨gf', cf', r1, r2, r3, r4, r5, -, -, r8⟩ := HT7.out.spot HTA.out hfi8 hpl6
      have k1' := hch7.cell k1 (fun x => x)
      rw [k1'] at r1
      injection r1 with r1
      injection r1 with r1 _ q2
      injection r1 with r1
      injection r1 with r1
      subst r1 q2
      obtain ⟨Tm, hTm, hLm⟩ := r8 (k : Int)
      have HTM := Lib.hid hTm
      have HLM := Lib.hid hLm
      clear hch7 hbb hP1 v0 k1 k4 hbx1 hbx2 hbx4 r2 r3 r8 hTm hLm
      by_cases hneg : ov < 0
      · have HNX := Lib.hid (tofN_put (D := D) (n := k) (fi := fi) (pl := pl) HFU.out HFP.out.1 HFP.out.2 (.inl (by rw [HOV.out]; exact hneg)))
        have hfr : rp.full = false := by rw [← HRPE.out, readPage_no (fun hh => by omega)]; rfl
        go_wp2_with fail
        go_region
        go_wp2
        go_roundw
        case rel => exact ⟨k + 1, Tm, by omega, by go_num, (HC7.out.setCell (p := ⟨gf, pl, none⟩) (.inl HG.out) _).drew, HTM.out.new (Chg.refl NoB _).drew, Lib.hid (by rw [HNX.out]; exact HLM.out)⟩
        case measure => simp [intOf]; omega
      obtain ⟨o, rfl⟩ := Int.eq_ofNat_of_zero_le (show 0 ≤ ov by omega)
      have hok : o < 4 * D.length := by have := HRG.out; omega
      have hfr : rp.full = true := by rw [← HRPE.out, readPage_yes HD.out hok]; exact HFUL.out (by omega)
      have hsr : rp.stamp = stampOf D o := by rw [← HRPE.out, readPage_yes HD.out hok]; rfl
      by_cases hst : stampOf D o < stampOf D k
      · have HNX := Lib.hid (tofN_put (D := D) (n := k) (fi := fi) (pl := pl) HFU.out HFP.out.1 HFP.out.2 (.inr (by rw [HOV.out]; exact hst)))
        have hst' : stampOf D k > stampOf D o := hst
        go_wp2_with fail
        go_region
        go_wp2
        go_roundw
        case rel => exact ⟨k + 1, Tm, by omega, by go_num, (HC7.out.setCell (p := ⟨gf, pl, none⟩) (.inl HG.out) _).drew, HTM.out.new (Chg.refl NoB _).drew, Lib.hid (by rw [HNX.out]; exact HLM.out)⟩
        case measure => simp [intOf]; omega
      have HNX := Lib.hid (tofN_keep (D := D) (n := k) (fi := fi) (pl := pl) HFP.out.1 HFP.out.2 (by rw [HOV.out]; intro hh; rcases hh with hh | hh; exact hneg hh; exact hst hh))
      have hst' : ¬ stampOf D k > stampOf D o := hst
      go_wp2
      go_roundw
      case rel => exact ⟨k + 1, Ta, by omega, by go_num, HC7.out, HT7.out, Lib.hid (by rw [HNX.out]; exact HTA.out)⟩
      case measure => simp [intOf]; omega
end Go.Proofs.Ytpiojofmflfkkaa
