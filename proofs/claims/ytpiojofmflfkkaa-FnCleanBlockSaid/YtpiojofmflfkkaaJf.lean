/- Parts of the proof, merged: Zo, Zp, To, Tr. -/
import Derived.Test.YtpiojofmflfkkaaJe
import Derived.Test.YtpiojofmflfkkaaJa
import Derived.Deep.QuietTactic
import Derived.BigQuiet
/- TableOf of the program and of the reference. -/
namespace Go.Proofs.Ytpiojofmflfkkaa
open Go.RowKit
def fiOf (D : List Bk) (k : Nat) : Nat := (pgAt D k).file.toNat
def plOf (D : List Bk) (k : Nat) : Nat := (pgAt D k).place.toNat
/-- The table after the first n pages. -/
def tofN (D : List Bk) : Nat → Nat → Nat → Int
  | 0 => fun _ _ => -1
  | n + 1 => if (pgAt D n).full = true ∧ (tofN D n (fiOf D n) (plOf D n) < 0 ∨ stampOf D (tofN D n (fiOf D n) (plOf D n)).toNat < stampOf D n) then upd2 (tofN D n) (fiOf D n) (plOf D n) (n : Int) else tofN D n
theorem tofN_range (D : List Bk) (n : Nat) : ∀ f p, -1 ≤ tofN D n f p ∧ tofN D n f p < (n : Int) := by
  induction n with
  | zero => intro f p; exact ⟨by simp [tofN], by simp [tofN]⟩
  | succ n ih =>
    intro f p
    have := ih f p
    unfold tofN
    split
    · unfold upd2
      split <;> omega
    · omega
def tableOf (D : List Bk) : List (List Int) := if DvOk D then tabF (tofN D (4 * D.length)) else []
theorem emptyRows_tabF : emptyRows 8 = tabF (fun _ _ => -1) := by rfl
theorem tofN_free {D : List Bk} {n : Nat} (h : (pgAt D n).full = false) : tofN D (n + 1) = tofN D n := if_neg fun hh => by rw [h] at hh; exact absurd hh.1 (by simp)
theorem tofN_succ (D : List Bk) (n : Nat) : tofN D (n + 1) = if (pgAt D n).full = true ∧ (tofN D n (fiOf D n) (plOf D n) < 0 ∨ stampOf D (tofN D n (fiOf D n) (plOf D n)).toNat < stampOf D n) then upd2 (tofN D n) (fiOf D n) (plOf D n) (n : Int) else tofN D n := rfl
theorem tofN_put {D : List Bk} {n fi pl : Nat} (h : (pgAt D n).full = true) (hf : (pgAt D n).file = (fi : Int)) (hp : (pgAt D n).place = (pl : Int)) (h2 : tofN D n fi pl < 0 ∨ stampOf D (tofN D n fi pl).toNat < stampOf D n) : tofN D (n + 1) = upd2 (tofN D n) fi pl (n : Int) := by
  have e1 : fiOf D n = fi := by unfold fiOf; rw [hf]; rfl
  have e2 : plOf D n = pl := by unfold plOf; rw [hp]; rfl
  rw [tofN_succ, e1, e2, if_pos ⟨h, h2⟩]
theorem tofN_keep {D : List Bk} {n fi pl : Nat} (hf : (pgAt D n).file = (fi : Int)) (hp : (pgAt D n).place = (pl : Int)) (h2 : ¬ (tofN D n fi pl < 0 ∨ stampOf D (tofN D n fi pl).toNat < stampOf D n)) : tofN D (n + 1) = tofN D n := by
  have e1 : fiOf D n = fi := by unfold fiOf; rw [hf]; rfl
  have e2 : plOf D n = pl := by unfold plOf; rw [hp]; rfl
  rw [tofN_succ, e1, e2, if_neg (fun hh => h2 hh.2)]
set_option maxRecDepth 100000 in
set_option maxHeartbeats 8000000 in
theorem iTableOf_any (F : Nat → Prop) (A0 : Option Addr) (c0 : Nat) (D : List Bk) (w : World) (hr : DevR F w A0 D) :
    Calls Try.prog 18 #[.slice A0 D.length c0] w (RollP w (tableOf D)) := by
  have hca := (Chg.refl NoB w).alloc (.cells #[.slice none 0 0] 31)
  have HB := Lib.hid (Blk.new w 31 #[.slice none 0 0])
  have HC0 := Lib.hid hca
  have HD0 := Lib.hid (show DevR (fun i => i < w.heap.size) _ A0 D from (hr.lt.mono (G := fun i => i < w.heap.size) fun i _ hi => hi.2).new hca)
  clear hca hr
  by_cases hd : DvOk D
  case neg =>
    have HD := Lib.hid hd
    have HE := Lib.hid (show tableOf D = [] from if_neg hd)
    clear hd
    go_enter Try.func18, Try.ntmps18
    go_wp2_with fail
    refine (iDeviceValid_f _ A0 c0 D _ HD0.out HD.out).mono ?_
    rintro e w1 ⟨rfl, hc1⟩
    have hb2 := HB.out.chg hc1 (fun x => x)
    have r0 : w1.cell? ⟨w.heap.size, 0, none⟩ = some (.slice none 0 0) := (hb2.cell _).trans rfl
    have rf0 := hb2.frozen 0
    have HC1 := Lib.hid (HC0.out.trans hc1)
    clear hc1 hb2
    go_wp2_with fail
    (try simp only [Exit.inBlock, Exit.then])
    refine bodyPost_ret (v := .agg #[.slice none 0 0]) (by simp [results, Try.results18, go_sem, *]) rfl ?_
    unfold RollP
    rw [HE.out]
    exact ⟨none, 0, [], rfl, rfl, HC1.out.own ((Chg.refl (· = w.heap.size) w1).setCell (p := ⟨w.heap.size, 0, none⟩) (.inl rfl) _) (Nat.le_refl _), TabO.nil _ _ _ _ _⟩
  have HD := Lib.hid hd
  have HE := Lib.hid (show tableOf D = tabF (tofN D (4 * D.length)) from if_pos hd)
  have h1 := hd.1.1
  have h2 := hd.1.2
  clear hd
  go_enter Try.func18, Try.ntmps18
  go_wp2_with fail
  refine (iDeviceValid_t _ A0 c0 D _ HD0.out HD.out).mono ?_
  rintro e w2 ⟨rfl, hc1⟩
  have HB2 := Lib.hid (HB.out.chg hc1 (fun x => x))
  have HD2 := Lib.hid (HD0.out.new hc1)
  have HC2 := Lib.hid (HC0.out.trans hc1)
  clear hc1 HB HD0 HC0
  go_wp2_with fail
  refine (emptyTable_any _).mono ?_
  rintro e w3 ⟨g, T, rfl, hT, hc3, hO⟩
  have hca := (Chg.refl NoB w3).alloc (.cells #[.slice (some ⟨g, 0, none⟩) 8 8] 31)
  have HC4 := Lib.hid ((HC2.out.trans hc3).trans hca)
  have HB4 := Lib.hid ((HB2.out.chg hc3 (fun x => x)).chg hca (fun x => x))
  have HV4 := Lib.hid (Blk.new w3 31 #[.slice (some ⟨g, 0, none⟩) 8 8])
  have HD4 := Lib.hid ((HD2.out.new hc3).new hca)
  have HT4 := Lib.hid (hO.new hca)
  have HTT := Lib.hid (show listsOf T = tabF (tofN D 0) by rw [hT, emptyRows_tabF]; rfl)
  have HSZ := Lib.hid (show (w3.alloc (.cells #[.slice (some ⟨g, 0, none⟩) 8 8] 31)).heap.size = w3.heap.size + 1 by rw [World.size_alloc])
  have HS2 := Lib.hid (show w.heap.size < w2.heap.size from HB2.out.lt)
  have HS3 := Lib.hid hc3.size
  clear hT hO hc3 hca HD2 HC2 HB2
  go_wp2_with fail
  obtain ⟨w4, hw4⟩ : ∃ w4, w3.alloc (.cells #[.slice (some ⟨g, 0, none⟩) 8 8] 31) = w4 := ⟨_, rfl⟩
  obtain ⟨V, hV⟩ : ∃ V, w3.heap.size = V := ⟨_, rfl⟩
  have hVz := HSZ.out
  have hVs := HS3.out
  rw [hw4] at HC4 HB4 HV4 HD4 HT4 hVz ⊢
  rw [hV] at HV4 HT4 hVz hVs ⊢
  have HVS := Lib.hid hVs
  have HVZ := Lib.hid hVz
  clear hV hVz hVs HSZ HS3 hw4
  go_loopw [15] (fun i wr => ∃ (k : Nat) (T : List RowO), k ≤ 4 * D.length ∧ i = .int .i64 k ∧ Chg (fun i => w2.heap.size ≤ i ∧ i < V) w4 wr ∧ TabO w2.heap.size V wr (some ⟨g, 0, none⟩) 8 T ∧ Hid (listsOf T = tabF (tofN D k))) (fun i _ => 4 * D.length - (intOf i).toNat)
  case atStart => exact ⟨0, T, Nat.zero_le _, rfl, Chg.refl _ _, HT4.out, HTT⟩
  case round =>
    obtain ⟨wa, hwa⟩ : ∃ wa, wa = wr := ⟨_, rfl⟩
    rw [← hwa] at hrel ⊢
    obtain ⟨k, Ta, hk, rfl, hch, hta, HTA⟩ := hrel
    clear hwa
    have HCH := Lib.hid hch
    have HTO := Lib.hid hta
    have hs2 := HS2.out
    have hvs := HVS.out
    by_cases hlt : k < 4 * D.length
    case neg =>
      have hlt' : ¬ ((k : Int) < (D.length : Int) * 4) := by omega
      obtain rfl : k = 4 * D.length := by omega
      have hvb := HV4.out.chg hch (fun h => by omega)
      have v0 : wa.cell? ⟨V, 0, none⟩ = some (.slice (some ⟨g, 0, none⟩) 8 8) := (hvb.cell _).trans rfl
      have hb := HB4.out.chg hch (fun h => by omega)
      have r0 : wa.cell? ⟨w.heap.size, 0, none⟩ = some (.slice none 0 0) := (hb.cell _).trans rfl
      have rf0 := hb.frozen 0
      have HVL := Lib.hid hvb.lt
      clear hch hta hvb hb
      go_wp2_with fail
      (try simp only [Exit.inBlock, Exit.then])
      refine bodyPost_ret (v := .agg #[.slice (some ⟨g, 0, none⟩) 8 8]) (by simp [results, Try.results18, go_sem, *]) rfl ?_
      have hTe := HTA.out
      rw [← HE.out] at hTe
      have hcs := (Chg.refl (· = w.heap.size) wa).setCell (p := ⟨w.heap.size, 0, none⟩) (.inl rfl) (.slice (some ⟨g, 0, none⟩) 8 8)
      refine ⟨some ⟨g, 0, none⟩, 8, Ta, by rw [HE.out, tabF_len], hTe, (HC4.out.trans' HCH.out (fun i hi => .inr (by omega))).own hcs (Nat.le_refl _), (HTO.out.chg hcs (fun i h1 h2 h3 => by have h4 : i = w.heap.size := h3; omega)).more (by omega) (by have := HVL.out; rw [World.size_setCell]; omega)⟩
    have hi0 : (0 : Int) ≤ (k : Int) := Int.natCast_nonneg _
    have hi1 : (k : Int) < (D.length : Int) * 4 := by omega
    have HLT := Lib.hid hlt
    have HDA := Lib.hid (HD4.out.chg hch (fun i h1 h2 => by omega))
    clear hch hta
    go_wp2_with fail
    refine (pageAt_any _ A0 c0 D k _ HDA.out HD.out HLT.out).mono ?_
    rintro e w5 ⟨rfl, hc5⟩
    cases hf : (pgAt D k).full with
    | false =>
      have HNX := Lib.hid (tofN_free hf)
      have HC5 := Lib.hid (HCH.out.trans (hc5.mono (fun _ _ h => h.elim)))
      have HT5 := Lib.hid (HTO.out.new hc5)
      clear hc5
      go_wp2
      go_roundw
      case rel => exact ⟨k + 1, Ta, by omega, by go_num, HC5.out.alloc _, HT5.out.new ((Chg.refl NoB _).alloc _), Lib.hid (by rw [HNX.out]; exact HTA.out)⟩
      case measure => simp [intOf]; omega
    | true =>
      obtain ⟨fi, pl, hfi, hpl, hfi8, hpl6⟩ := page_places HD.out hlt hf
      have HFP := Lib.hid (And.intro hfi hpl)
      have HFU := Lib.hid hf
      have HSO := Lib.hid (show stampOf D k = (pgAt D k).stamp from rfl)
      have hca := (Chg.refl NoB w5).alloc (.cells #[.bool true, .int .i64 (fi : Int), .int .i64 (pl : Int), .int .i64 (pgAt D k).value, .int .i64 (pgAt D k).stamp] 80)
      have hbx := Blk.new w5 80 #[.bool true, .int .i64 (fi : Int), .int .i64 (pl : Int), .int .i64 (pgAt D k).value, .int .i64 (pgAt D k).stamp]
      have hcc := hc5.trans hca
      have HC6 := Lib.hid (HCH.out.trans (hcc.mono (fun _ _ h => h.elim)))
      have HT6 := Lib.hid (HTO.out.new hcc)
      have hvb := (HV4.out.chg HCH.out (fun h => by omega)).chg hcc (fun x => x)
      have v0 := hvb.cell 0
      replace v0 := v0.trans (show _ = some (Value.slice (some ⟨g, 0, none⟩) 8 8) from rfl)
      obtain ⟨gf, cf, k1, k2, k3, k4, k5, k6, k7, k8⟩ := HT6.out.spot HTA.out hfi8 hpl6
      obtain ⟨Tn, hTn, hLn⟩ := k8 (k : Int)
      have HTN := Lib.hid hTn
      have HLN := Lib.hid hLn
      have HG := Lib.hid (show w2.heap.size ≤ gf ∧ gf < V from ⟨k2, k3⟩)
      have hfi1 : (0 : Int) ≤ (fi : Int) := Int.natCast_nonneg _
      have hfi2 : (fi : Int) < 8 := by omega
      have hpl1 : (0 : Int) ≤ (pl : Int) := Int.natCast_nonneg _
      have hpl2 : (pl : Int) < 6 := by omega
      have HBX := Lib.hid hbx
      have HRG := Lib.hid (tofN_range D k fi pl)
      obtain ⟨ov, hov⟩ : ∃ ov, tofN D k fi pl = ov := ⟨_, rfl⟩
      rw [hov] at k4 HRG
      have HOV := Lib.hid hov
      clear hc5 hca hcc hvb k2 k3 k6 k7 k8 hTn hLn hbx hov
      go_wp2_with fail
      obtain ⟨w6, hw6⟩ : ∃ w6, w5.alloc (.cells #[.bool true, .int .i64 (fi : Int), .int .i64 (pl : Int), .int .i64 (pgAt D k).value, .int .i64 (pgAt D k).stamp] 80) = w6 := ⟨_, rfl⟩
      obtain ⟨P0, hPe⟩ : ∃ P0, w5.heap.size = P0 := ⟨_, rfl⟩
      rw [hw6] at HBX HC6 HT6 v0 k1 k4 k5 HTN
      rw [hPe] at HBX
      rw [hw6, hPe]
      have hbx1 := HBX.out.cell 1
      have hbx2 := HBX.out.cell 2
      have hbx4 := HBX.out.cell 4
      replace hbx1 := hbx1.trans (show _ = some (Value.int .i64 (fi : Int)) from rfl)
      replace hbx2 := hbx2.trans (show _ = some (Value.int .i64 (pl : Int)) from rfl)
      replace hbx4 := hbx4.trans (show _ = some (Value.int .i64 (stampOf D k)) from rfl)
      clear hw6 hPe hf hfi hpl
      go_quiet (fail)
      go_wp2_with fail
      obtain ⟨w7, hw7⟩ : ∃ w7, w6.drewN nq = w7 := ⟨_, rfl⟩
      have HQ := Lib.hid (show Chg NoB w6 w7 by rw [← hw7]; exact (Chg.refl NoB w6).drewN _)
      have HTN7 := Lib.hid (show TabO w2.heap.size V (w7.setCell ⟨gf, pl, none⟩ (.int .i64 (k : Int))) (some ⟨g, 0, none⟩) 8 Tn by rw [← hw7]; exact HTN.out.new ((Chg.refl NoB _).drewN nq))
      rw [hw7]
      have HX4 := Lib.hid (HQ.out.cell hbx4 (fun x => x))
      have x4 := HX4.out
      have HDQ := Lib.hid ((HD4.out.chg HC6.out (fun i h1 h2 => by omega)).new HQ.out)
      have v0' := HQ.out.cell v0 (fun x => x)
      have k1' := HQ.out.cell k1 (fun x => x)
      have k4' := HQ.out.cell k4 (fun x => x)
      have k5' : w7.frozen? ⟨gf, pl, none⟩ = false := by rw [← hw7]; exact k5
      have b1' := HQ.out.cell hbx1 (fun x => x)
      have b2' := HQ.out.cell hbx2 (fun x => x)
      have HC7 := Lib.hid (HC6.out.trans (HQ.out.mono (fun _ _ h => h.elim)))
      have HV0 := Lib.hid v0'
      have HK1 := Lib.hid k1'
      have HK4 := Lib.hid k4'
      have HK5 := Lib.hid (show ∀ wq, Chg NoB w7 wq → wq.cell? ⟨gf, pl, none⟩ = some (.int .i64 ov) from fun wq hq => hq.cell HK4.out (fun x => x))
      have HB1 := Lib.hid b1'
      have HB2 := Lib.hid b2'
      clear hw7 hbx1 hbx2 hbx4 v0 k1 k4 k5 v0' k1' k4' b1' b2' k5'
      by_cases hneg : ov < 0
      · have HNX := Lib.hid (tofN_put (D := D) (n := k) (fi := fi) (pl := pl) HFU.out HFP.out.1 HFP.out.2 (.inl (by rw [HOV.out]; exact hneg)))
        refine wp_region_ro (gl := [(2, some true)]) (WInv := fun _ _ w5 => Chg NoB w7 w5) (R := Chg NoB) (Post := PV [some (.int .i64 ov), some (.bool true), some (.bool true), some (undef), some (undef), some (undef), some (undef), some (undef), some (undef), some (undef), some (.bool true)]) (by kernel_rfl) (by kernel_rfl) (pv_guard (by intro p hp; simp only [List.mem_cons, List.not_mem_nil, or_false] at hp; rcases hp with rfl <;> rfl)) (fun _ _ _ _ h _ _ => h) (fun _ _ _ _ h _ => h) (Chg.refl _ _).drew ⟨?_, ?_, ?_, ?_, ?_, ?_, ?_, ?_, ?_, ?_, ?_, trivial⟩ ?_
        · rintro kc m a w5 hkc hch hm hn
          obtain ⟨e1, -⟩ := hn
          replace e1 : a.tmps[6]?.getD undef = .int .i64 ov := e1
          exact rg_val (v := .int .i64 ov) (by simp [execOp, go_sem, e1]) rfl hch (Chg.refl _ _) rfl
        · rintro kc m a w5 hkc hch hm hn
          obtain ⟨⟨_, e1, _, rfl⟩, -⟩ := hn
          exact rg_val (v := .bool true) (by simp [execOp, go_sem, e1, hneg]) rfl hch (Chg.refl _ _) rfl
        · rintro kc m a w5 hkc hch hm hn
          obtain ⟨⟨_, e1, _, rfl⟩, -⟩ := hn
          exact rg_val (v := .bool true) (by simp [execOp, go_sem, e1]) rfl hch (Chg.refl _ _) rfl
        · rintro kc m w5 hkc hch hm
          exact ⟨hch, Chg.refl _ _, rfl⟩
        · rintro kc m w5 hkc hch hm
          exact ⟨hch, Chg.refl _ _, rfl⟩
        · rintro kc m w5 hkc hch hm
          exact ⟨hch, Chg.refl _ _, rfl⟩
        · rintro kc m w5 hkc hch hm
          exact ⟨hch, Chg.refl _ _, rfl⟩
        · rintro kc m w5 hkc hch hm
          exact ⟨hch, Chg.refl _ _, rfl⟩
        · rintro kc m w5 hkc hch hm
          exact ⟨hch, Chg.refl _ _, rfl⟩
        · rintro kc m w5 hkc hch hm
          exact ⟨hch, Chg.refl _ _, rfl⟩
        · rintro kc m a w5 hkc hch hm hn
          obtain ⟨⟨_, e1, _, rfl⟩, ⟨_, e2, _, rfl⟩, -⟩ := hn
          exact rg_val (v := .bool true) (by simp [execOp, go_sem, e1, e2]) rfl hch (Chg.refl _ _) rfl
        rintro m w2x hc2
        simp only [AllVals]
        rintro v0 _ p0 v1 _ p1 v2 _ p2 v3 _ p3 v4 _ p4 v5 _ p5 v6 _ p6 v7 _ p7 v8 _ p8 v9 _ p9 v10 _ p10
        obtain rfl := p10
        clear p0 p1 p2 p3 p4 p5 p6 p7 p8 p9
        simp only [Act.put, List.setIfInBounds_toArray, List.set_cons_succ, List.set_cons_zero]
        have HC2 := Lib.hid hc2
        clear hc2
        have HC8 := Lib.hid (HC7.out.trans (HC2.out.mono (fun _ _ h => h.elim)))
        have v0 := HC2.out.cell HV0.out (fun x => x)
        have k1 := HC2.out.cell HK1.out (fun x => x)
        have b1 := HC2.out.cell HB1.out (fun x => x)
        have b2 := HC2.out.cell HB2.out (fun x => x)
        obtain ⟨gf', cf', r1, r2, r3, r4, r5, -, -, r8⟩ := ((HT6.out.new HQ.out).new HC2.out).spot HTA.out hfi8 hpl6
        rw [k1] at r1
        injection r1 with r1
        injection r1 with r1 _ q2
        injection r1 with r1
        injection r1 with r1
        subst r1 q2
        obtain ⟨Tm, hTm, hLm⟩ := r8 (k : Int)
        have HTM := Lib.hid hTm
        have HLM := Lib.hid hLm
        clear HC2 r8 hTm hLm r2 r3 x4
        go_wp2_with fail
        go_region
        go_wp2
        go_roundw
        case rel => exact ⟨k + 1, Tm, by omega, by go_num, (HC8.out.setCell (p := ⟨gf, pl, none⟩) (.inl HG.out) _).drew, HTM.out.new (Chg.refl NoB _).drew, Lib.hid (by rw [HNX.out]; exact HLM.out)⟩
        case measure => simp [intOf]; omega
      obtain ⟨o, rfl⟩ := Int.eq_ofNat_of_zero_le (show 0 ≤ ov by omega)
      have hok : o < 4 * D.length := by have := HRG.out; omega
      have HPO := Lib.hid (show ∀ wq, Chg NoB w7 wq → Calls Try.prog 72 #[.slice A0 D.length c0, .int .i64 (o : Nat)] wq fun e w' => e = .returned (pval (pgAt D o)) ∧ Chg NoB wq w' from fun wq hq => pageAt_any _ A0 c0 D o wq (HDQ.out.new hq) HD.out hok)
      have hn0 : ¬ ((o : Int) < 0) := hneg
      by_cases hst : stampOf D o < stampOf D k
      · have HNX := Lib.hid (tofN_put (D := D) (n := k) (fi := fi) (pl := pl) HFU.out HFP.out.1 HFP.out.2 (.inr (by rw [HOV.out]; exact hst)))
        have hst' : stampOf D k > stampOf D o := hst
        refine wp_region_ro (gl := [(2, some false)]) (WInv := fun _ _ w5 => Chg NoB w7 w5) (R := Chg NoB) (Post := PV [some (.int .i64 (o : Int)), some (.bool false), some (.bool false), some (.pointer (some ⟨P0, 4, none⟩)), some (.int .i64 (stampOf D k)), some (.slice A0 D.length c0), some (.int .i64 (o : Int)), some (pval (pgAt D o)), some (.int .i64 (stampOf D o)), some (.bool true), some (.bool true)]) (by kernel_rfl) (by kernel_rfl) (pv_guard (by intro p hp; simp only [List.mem_cons, List.not_mem_nil, or_false] at hp; rcases hp with rfl <;> rfl)) (fun _ _ _ _ h _ _ => h) (fun _ _ _ _ h _ => h) (Chg.refl _ _).drew ⟨?_, ?_, ?_, ?_, ?_, ?_, ?_, ?_, ?_, ?_, ?_, trivial⟩ ?_
        · rintro kc m a w5 hkc hch hm hn
          obtain ⟨e1, -⟩ := hn
          replace e1 : a.tmps[6]?.getD undef = .int .i64 (o : Int) := e1
          exact rg_val (v := .int .i64 (o : Int)) (by simp [execOp, go_sem, e1]) rfl hch (Chg.refl _ _) rfl
        · rintro kc m a w5 hkc hch hm hn
          obtain ⟨⟨_, e1, _, rfl⟩, -⟩ := hn
          exact rg_val (v := .bool false) (by simp [execOp, go_sem, e1]) rfl hch (Chg.refl _ _) rfl
        · rintro kc m a w5 hkc hch hm hn
          obtain ⟨⟨_, e1, _, rfl⟩, -⟩ := hn
          exact rg_val (v := .bool false) (by simp [execOp, go_sem, e1]) rfl hch (Chg.refl _ _) rfl
        · rintro kc m a w5 hkc hch hm hn
          obtain ⟨e1, -⟩ := hn
          replace e1 : a.tmps[5]?.getD undef = .pointer (some ⟨P0, 0, none⟩) := e1
          exact rg_val (v := .pointer (some ⟨P0, 4, none⟩)) (by simp [execOp, go_sem, e1]) rfl hch (Chg.refl _ _) rfl
        · rintro kc m a w5 hkc hch hm hn
          obtain ⟨⟨_, e1, _, rfl⟩, -⟩ := hn
          have c0 := Chg.cell hch x4 (fun x => x)
          exact rg_val (v := .int .i64 (stampOf D k)) (by simp [execOp, go_sem, e1, c0]) rfl hch (Chg.refl _ _) rfl
        · rintro kc m a w5 hkc hch hm hn
          obtain ⟨e1, -⟩ := hn
          replace e1 : a.tmps[0]?.getD undef = .slice A0 D.length c0 := e1
          exact rg_val (v := .slice A0 D.length c0) (by simp [execOp, go_sem, e1]) rfl hch (Chg.refl _ _) rfl
        · rintro kc m a w5 hkc hch hm hn
          obtain ⟨e1, -⟩ := hn
          replace e1 : a.tmps[6]?.getD undef = .int .i64 (o : Int) := e1
          exact rg_val (v := .int .i64 (o : Int)) (by simp [execOp, go_sem, e1]) rfl hch (Chg.refl _ _) rfl
        · rintro kc m a w5 hkc hch hm hn
          obtain ⟨⟨_, e1, _, rfl⟩, ⟨_, e2, _, rfl⟩, -⟩ := hn
          refine rg_call (f := 72) (args := #[.slice A0 D.length c0, .int .i64 (o : Int)]) (by simp [go_sem, e1, e2]) rfl ?_
          refine (HPO.out _ hch).mono ?_
          rintro e w6 ⟨rfl, hc6⟩
          exact ⟨_, rfl, hch.trans hc6, hc6, rfl⟩
        · rintro kc m a w5 hkc hch hm hn
          obtain ⟨⟨_, e1, _, rfl⟩, -⟩ := hn
          exact rg_val (v := .int .i64 (stampOf D o)) (by simp [execOp, go_sem, e1, run_stamp, stampOf]) rfl hch (Chg.refl _ _) rfl
        · rintro kc m a w5 hkc hch hm hn
          obtain ⟨⟨_, e1, _, rfl⟩, ⟨_, e2, _, rfl⟩, -⟩ := hn
          exact rg_val (v := .bool true) (by simp [execOp, go_sem, e1, e2, hst']) rfl hch (Chg.refl _ _) rfl
        · rintro kc m a w5 hkc hch hm hn
          obtain ⟨⟨_, e1, _, rfl⟩, ⟨_, e2, _, rfl⟩, -⟩ := hn
          exact rg_val (v := .bool true) (by simp [execOp, go_sem, e1, e2]) rfl hch (Chg.refl _ _) rfl
        rintro m w2x hc2
        simp only [AllVals]
        rintro v0 _ p0 v1 _ p1 v2 _ p2 v3 _ p3 v4 _ p4 v5 _ p5 v6 _ p6 v7 _ p7 v8 _ p8 v9 _ p9 v10 _ p10
        obtain rfl := p10
        clear p0 p1 p2 p3 p4 p5 p6 p7 p8 p9
        simp only [Act.put, List.setIfInBounds_toArray, List.set_cons_succ, List.set_cons_zero]
        have HC2 := Lib.hid hc2
        clear hc2
        have HC8 := Lib.hid (HC7.out.trans (HC2.out.mono (fun _ _ h => h.elim)))
        have v0 := HC2.out.cell HV0.out (fun x => x)
        have k1 := HC2.out.cell HK1.out (fun x => x)
        have b1 := HC2.out.cell HB1.out (fun x => x)
        have b2 := HC2.out.cell HB2.out (fun x => x)
        obtain ⟨gf', cf', r1, r2, r3, r4, r5, -, -, r8⟩ := ((HT6.out.new HQ.out).new HC2.out).spot HTA.out hfi8 hpl6
        rw [k1] at r1
        injection r1 with r1
        injection r1 with r1 _ q2
        injection r1 with r1
        injection r1 with r1
        subst r1 q2
        obtain ⟨Tm, hTm, hLm⟩ := r8 (k : Int)
        have HTM := Lib.hid hTm
        have HLM := Lib.hid hLm
        clear HC2 r8 hTm hLm r2 r3 x4
        go_wp2_with fail
        go_region
        go_wp2
        go_roundw
        case rel => exact ⟨k + 1, Tm, by omega, by go_num, (HC8.out.setCell (p := ⟨gf, pl, none⟩) (.inl HG.out) _).drew, HTM.out.new (Chg.refl NoB _).drew, Lib.hid (by rw [HNX.out]; exact HLM.out)⟩
        case measure => simp [intOf]; omega
      have HNX := Lib.hid (tofN_keep (D := D) (n := k) (fi := fi) (pl := pl) HFP.out.1 HFP.out.2 (by rw [HOV.out]; intro hh; rcases hh with hh | hh; exact hneg hh; exact hst hh))
      have hst' : ¬ stampOf D k > stampOf D o := hst
      refine wp_region_ro (gl := [(2, some false)]) (WInv := fun _ _ w5 => Chg NoB w7 w5) (R := Chg NoB) (Post := PV [some (.int .i64 (o : Int)), some (.bool false), some (.bool false), some (.pointer (some ⟨P0, 4, none⟩)), some (.int .i64 (stampOf D k)), some (.slice A0 D.length c0), some (.int .i64 (o : Int)), some (pval (pgAt D o)), some (.int .i64 (stampOf D o)), some (.bool false), some (.bool false)]) (by kernel_rfl) (by kernel_rfl) (pv_guard (by intro p hp; simp only [List.mem_cons, List.not_mem_nil, or_false] at hp; rcases hp with rfl <;> rfl)) (fun _ _ _ _ h _ _ => h) (fun _ _ _ _ h _ => h) (Chg.refl _ _).drew ⟨?_, ?_, ?_, ?_, ?_, ?_, ?_, ?_, ?_, ?_, ?_, trivial⟩ ?_
      · rintro kc m a w5 hkc hch hm hn
        obtain ⟨e1, -⟩ := hn
        replace e1 : a.tmps[6]?.getD undef = .int .i64 (o : Int) := e1
        exact rg_val (v := .int .i64 (o : Int)) (by simp [execOp, go_sem, e1]) rfl hch (Chg.refl _ _) rfl
      · rintro kc m a w5 hkc hch hm hn
        obtain ⟨⟨_, e1, _, rfl⟩, -⟩ := hn
        exact rg_val (v := .bool false) (by simp [execOp, go_sem, e1]) rfl hch (Chg.refl _ _) rfl
      · rintro kc m a w5 hkc hch hm hn
        obtain ⟨⟨_, e1, _, rfl⟩, -⟩ := hn
        exact rg_val (v := .bool false) (by simp [execOp, go_sem, e1]) rfl hch (Chg.refl _ _) rfl
      · rintro kc m a w5 hkc hch hm hn
        obtain ⟨e1, -⟩ := hn
        replace e1 : a.tmps[5]?.getD undef = .pointer (some ⟨P0, 0, none⟩) := e1
        exact rg_val (v := .pointer (some ⟨P0, 4, none⟩)) (by simp [execOp, go_sem, e1]) rfl hch (Chg.refl _ _) rfl
      · rintro kc m a w5 hkc hch hm hn
        obtain ⟨⟨_, e1, _, rfl⟩, -⟩ := hn
        have c0 := Chg.cell hch x4 (fun x => x)
        exact rg_val (v := .int .i64 (stampOf D k)) (by simp [execOp, go_sem, e1, c0]) rfl hch (Chg.refl _ _) rfl
      · rintro kc m a w5 hkc hch hm hn
        obtain ⟨e1, -⟩ := hn
        replace e1 : a.tmps[0]?.getD undef = .slice A0 D.length c0 := e1
        exact rg_val (v := .slice A0 D.length c0) (by simp [execOp, go_sem, e1]) rfl hch (Chg.refl _ _) rfl
      · rintro kc m a w5 hkc hch hm hn
        obtain ⟨e1, -⟩ := hn
        replace e1 : a.tmps[6]?.getD undef = .int .i64 (o : Int) := e1
        exact rg_val (v := .int .i64 (o : Int)) (by simp [execOp, go_sem, e1]) rfl hch (Chg.refl _ _) rfl
      · rintro kc m a w5 hkc hch hm hn
        obtain ⟨⟨_, e1, _, rfl⟩, ⟨_, e2, _, rfl⟩, -⟩ := hn
        refine rg_call (f := 72) (args := #[.slice A0 D.length c0, .int .i64 (o : Int)]) (by simp [go_sem, e1, e2]) rfl ?_
        refine (HPO.out _ hch).mono ?_
        rintro e w6 ⟨rfl, hc6⟩
        exact ⟨_, rfl, hch.trans hc6, hc6, rfl⟩
      · rintro kc m a w5 hkc hch hm hn
        obtain ⟨⟨_, e1, _, rfl⟩, -⟩ := hn
        exact rg_val (v := .int .i64 (stampOf D o)) (by simp [execOp, go_sem, e1, run_stamp, stampOf]) rfl hch (Chg.refl _ _) rfl
      · rintro kc m a w5 hkc hch hm hn
        obtain ⟨⟨_, e1, _, rfl⟩, ⟨_, e2, _, rfl⟩, -⟩ := hn
        exact rg_val (v := .bool false) (by simp [execOp, go_sem, e1, e2, hst']) rfl hch (Chg.refl _ _) rfl
      · rintro kc m a w5 hkc hch hm hn
        obtain ⟨⟨_, e1, _, rfl⟩, ⟨_, e2, _, rfl⟩, -⟩ := hn
        exact rg_val (v := .bool false) (by simp [execOp, go_sem, e1, e2]) rfl hch (Chg.refl _ _) rfl
      rintro m w2x hc2
      simp only [AllVals]
      rintro v0 _ p0 v1 _ p1 v2 _ p2 v3 _ p3 v4 _ p4 v5 _ p5 v6 _ p6 v7 _ p7 v8 _ p8 v9 _ p9 v10 _ p10
      obtain rfl := p10
      clear p0 p1 p2 p3 p4 p5 p6 p7 p8 p9
      simp only [Act.put, List.setIfInBounds_toArray, List.set_cons_succ, List.set_cons_zero]
      have HC2 := Lib.hid hc2
      clear hc2
      have HC8 := Lib.hid (HC7.out.trans (HC2.out.mono (fun _ _ h => h.elim)))
      have HT8 := Lib.hid ((HT6.out.new HQ.out).new HC2.out)
      clear HC2 x4
      go_wp2
      go_roundw
      case rel => exact ⟨k + 1, Ta, by omega, by go_num, HC8.out, HT8.out, Lib.hid (by rw [HNX.out]; exact HTA.out)⟩
      case measure => simp [intOf]; omega
end Go.Proofs.Ytpiojofmflfkkaa
/- TableOf of the reference. -/
namespace Go.Proofs.Ytpiojofmflfkkaa
open Go.RowKit
theorem tofN_full (D : List Bk) (n : Nat) : ∀ f p, 0 ≤ tofN D n f p → (pgAt D (tofN D n f p).toNat).full = true := by
  induction n with
  | zero => intro f p h; simp [tofN] at h
  | succ n ih =>
    intro f p h
    rw [tofN_succ] at h ⊢
    split at h
    · rename_i hc
      rw [if_pos hc]
      unfold upd2 at h ⊢
      split at h
      · rename_i he
        rw [if_pos he, Int.toNat_natCast]
        exact hc.1
      · rename_i he
        rw [if_neg he]
        exact ih f p h
    · rename_i hc
      rw [if_neg hc]
      exact ih f p h
set_option maxRecDepth 100000 in
set_option maxHeartbeats 8000000 in
theorem sTableOf_any (F : Nat → Prop) (A0 : Option Addr) (c0 : Nat) (D : List Bk) (w : World) (hr : DevR F w A0 D) (hs : Small D) :
    Calls Try.prog 67 #[.slice A0 D.length c0] w (RollP w (tableOf D)) := by
  have hca := (Chg.refl NoB w).alloc (.cells #[.slice none 0 0] 31)
  have HB := Lib.hid (Blk.new w 31 #[.slice none 0 0])
  have HC0 := Lib.hid hca
  have HD0 := Lib.hid (show DevR (fun i => i < w.heap.size) _ A0 D from (hr.lt.mono (G := fun i => i < w.heap.size) fun i _ hi => hi.2).new hca)
  have HS := Lib.hid hs
  clear hca hr hs
  by_cases hd : DvOk D
  case neg =>
    have HD := Lib.hid hd
    have HE := Lib.hid (show tableOf D = [] from if_neg hd)
    clear hd
    go_enter Try.func67, Try.ntmps67
    go_wp2_with fail
    refine (sDeviceValid_f _ A0 c0 D _ HD0.out HS.out HD.out).mono ?_
    rintro e w1 ⟨rfl, hc1⟩
    have hb2 := HB.out.chg hc1 (fun x => x)
    have r0 : w1.cell? ⟨w.heap.size, 0, none⟩ = some (.slice none 0 0) := (hb2.cell _).trans rfl
    have rf0 := hb2.frozen 0
    have HC1 := Lib.hid (HC0.out.trans hc1)
    clear hc1 hb2
    go_wp2_with fail
    (try simp only [Exit.inBlock, Exit.then])
    refine bodyPost_ret (v := .agg #[.slice none 0 0]) (by simp [results, Try.results67, go_sem, *]) rfl ?_
    unfold RollP
    rw [HE.out]
    exact ⟨none, 0, [], rfl, rfl, HC1.out.own ((Chg.refl (· = w.heap.size) w1).setCell (p := ⟨w.heap.size, 0, none⟩) (.inl rfl) _) (Nat.le_refl _), TabO.nil _ _ _ _ _⟩
  have HD := Lib.hid hd
  have HE := Lib.hid (show tableOf D = tabF (tofN D (4 * D.length)) from if_pos hd)
  have h1 := hd.1.1
  have h2 := hd.1.2
  clear hd
  go_enter Try.func67, Try.ntmps67
  go_wp2_with fail
  refine (sDeviceValid_t _ A0 c0 D _ HD0.out HD.out).mono ?_
  rintro e w2 ⟨rfl, hc1⟩
  have HB2 := Lib.hid (HB.out.chg hc1 (fun x => x))
  have HD2 := Lib.hid (HD0.out.new hc1)
  have HC2 := Lib.hid (HC0.out.trans hc1)
  clear hc1 HB HD0 HC0
  go_wp2_with fail
  refine (l7New_any _).mono ?_
  rintro e w3 ⟨A', c', T, rfl, hT, hc3, hO⟩
  have hT8 : T.length = 8 := by rw [← listsOf_length, hT]; rfl
  obtain ⟨g, hAg⟩ : ∃ g, A' = some ⟨g, 0, none⟩ := by
    rcases hO.1.2 with ⟨h0, _⟩ | ⟨g, rest, he, _⟩
    · omega
    · exact ⟨g, he⟩
  subst hAg
  have hca := (Chg.refl NoB w3).alloc (.cells #[.slice (some ⟨g, 0, none⟩) 8 c'] 31)
  have HC4 := Lib.hid ((HC2.out.trans hc3).trans hca)
  have HB4 := Lib.hid ((HB2.out.chg hc3 (fun x => x)).chg hca (fun x => x))
  have HV4 := Lib.hid (Blk.new w3 31 #[.slice (some ⟨g, 0, none⟩) 8 c'])
  have HD4 := Lib.hid ((HD2.out.new hc3).new hca)
  have HT4 := Lib.hid (hO.new hca)
  have HTT := Lib.hid (show listsOf T = tabF (tofN D 0) by rw [hT, emptyRows_tabF]; rfl)
  have HSZ := Lib.hid (show (w3.alloc (.cells #[.slice (some ⟨g, 0, none⟩) 8 c'] 31)).heap.size = w3.heap.size + 1 by rw [World.size_alloc])
  have HS2 := Lib.hid (show w.heap.size < w2.heap.size from HB2.out.lt)
  have HS3 := Lib.hid hc3.size
  clear hT hO hc3 hca HD2 HC2 HB2 hT8
  go_wp2_with fail
  obtain ⟨w4, hw4⟩ : ∃ w4, w3.alloc (.cells #[.slice (some ⟨g, 0, none⟩) 8 c'] 31) = w4 := ⟨_, rfl⟩
  obtain ⟨V, hV⟩ : ∃ V, w3.heap.size = V := ⟨_, rfl⟩
  have hVz := HSZ.out
  have hVs := HS3.out
  rw [hw4] at HC4 HB4 HV4 HD4 HT4 hVz ⊢
  rw [hV] at HV4 HT4 hVz hVs ⊢
  have HVS := Lib.hid hVs
  have HVZ := Lib.hid hVz
  clear hV hVz hVs HSZ HS3 hw4
  go_loopw [4] (fun i wr => ∃ (k : Nat) (T : List RowO), k ≤ 4 * D.length ∧ i = .int .i64 k ∧ Chg (fun i => w2.heap.size ≤ i ∧ i < V) w4 wr ∧ TabO w2.heap.size V wr (some ⟨g, 0, none⟩) c' T ∧ Hid (listsOf T = tabF (tofN D k))) (fun i _ => 4 * D.length - (intOf i).toNat)
  case atStart => exact ⟨0, T, Nat.zero_le _, rfl, Chg.refl _ _, HT4.out, HTT⟩
  case round =>
    obtain ⟨wa, hwa⟩ : ∃ wa, wa = wr := ⟨_, rfl⟩
    rw [← hwa] at hrel ⊢
    obtain ⟨k, Ta, hk, rfl, hch, hta, HTA⟩ := hrel
    clear hwa
    have HCH := Lib.hid hch
    have HTO := Lib.hid hta
    have hs2 := HS2.out
    have hvs := HVS.out
    by_cases hlt : k < 4 * D.length
    case neg =>
      have hlt' : ¬ ((k : Int) < 4 * (D.length : Int)) := by omega
      obtain rfl : k = 4 * D.length := by omega
      have hvb := HV4.out.chg hch (fun h => by omega)
      have v0 : wa.cell? ⟨V, 0, none⟩ = some (.slice (some ⟨g, 0, none⟩) 8 c') := (hvb.cell _).trans rfl
      have hb := HB4.out.chg hch (fun h => by omega)
      have r0 : wa.cell? ⟨w.heap.size, 0, none⟩ = some (.slice none 0 0) := (hb.cell _).trans rfl
      have rf0 := hb.frozen 0
      have HVL := Lib.hid hvb.lt
      clear hch hta hvb hb
      go_wp2_with fail
      (try simp only [Exit.inBlock, Exit.then])
      refine bodyPost_ret (v := .agg #[.slice (some ⟨g, 0, none⟩) 8 c']) (by simp [results, Try.results67, go_sem, *]) rfl ?_
      have hTe := HTA.out
      rw [← HE.out] at hTe
      have hcs := (Chg.refl (· = w.heap.size) wa).setCell (p := ⟨w.heap.size, 0, none⟩) (.inl rfl) (.slice (some ⟨g, 0, none⟩) 8 c')
      refine ⟨some ⟨g, 0, none⟩, c', Ta, by rw [HE.out, tabF_len], hTe, (HC4.out.trans' HCH.out (fun i hi => .inr (by omega))).own hcs (Nat.le_refl _), (HTO.out.chg hcs (fun i h1 h2 h3 => by have h4 : i = w.heap.size := h3; omega)).more (by omega) (by have := HVL.out; rw [World.size_setCell]; omega)⟩
    have hi0 : (0 : Int) ≤ (k : Int) := Int.natCast_nonneg _
    have hi1 : (k : Int) < 4 * (D.length : Int) := by omega
    have HLT := Lib.hid hlt
    have HDA := Lib.hid (HD4.out.chg hch (fun i h1 h2 => by omega))
    clear hch hta
    have HRK := Lib.hid (readPage_yes HD.out HLT.out)
    go_wp2_with fail
    refine (sReadPage_any _ A0 c0 D (k : Int) _ HDA.out HS.out).mono ?_
    rw [HRK.out]
    rintro e w5 ⟨rfl, hc5⟩
    cases hf : (pgAt D k).full with
    | false =>
      have HNX := Lib.hid (tofN_free hf)
      have HC5 := Lib.hid (HCH.out.trans (hc5.mono (fun _ _ h => h.elim)))
      have HT5 := Lib.hid (HTO.out.new hc5)
      clear hc5
      go_wp2
      go_roundw
      case rel => exact ⟨k + 1, Ta, by omega, by go_num, HC5.out.alloc _, HT5.out.new ((Chg.refl NoB _).alloc _), Lib.hid (by rw [HNX.out]; exact HTA.out)⟩
      case measure => simp [intOf]; omega
    | true =>
      obtain ⟨fi, pl, hfi, hpl, hfi8, hpl6⟩ := page_places HD.out hlt hf
      have HFP := Lib.hid (And.intro hfi hpl)
      have HFU := Lib.hid hf
      have hca := (Chg.refl NoB w5).alloc (.cells #[.bool true, .int .i64 (fi : Int), .int .i64 (pl : Int), .int .i64 (pgAt D k).value, .int .i64 (pgAt D k).stamp] 80)
      have hbx := Blk.new w5 80 #[.bool true, .int .i64 (fi : Int), .int .i64 (pl : Int), .int .i64 (pgAt D k).value, .int .i64 (pgAt D k).stamp]
      have hcc := hc5.trans hca
      have HC6 := Lib.hid (HCH.out.trans (hcc.mono (fun _ _ h => h.elim)))
      have HT6 := Lib.hid (HTO.out.new hcc)
      have hvb := (HV4.out.chg HCH.out (fun h => by omega)).chg hcc (fun x => x)
      have v0 := hvb.cell 0
      replace v0 := v0.trans (show _ = some (Value.slice (some ⟨g, 0, none⟩) 8 c') from rfl)
      obtain ⟨gf, cf, k1, k2, k3, k4, -, -, -, -⟩ := HT6.out.spot HTA.out hfi8 hpl6
      have HG := Lib.hid (show w2.heap.size ≤ gf ∧ gf < V from ⟨k2, k3⟩)
      have hfi1 : (0 : Int) ≤ (fi : Int) := Int.natCast_nonneg _
      have hfi2 : (fi : Int) < 8 := by omega
      have hpl1 : (0 : Int) ≤ (pl : Int) := Int.natCast_nonneg _
      have hpl2 : (pl : Int) < 6 := by omega
      have HBX := Lib.hid hbx
      have HRG := Lib.hid (tofN_range D k fi pl)
      have HFUL := Lib.hid (tofN_full D k fi pl)
      obtain ⟨ov, hov⟩ : ∃ ov, tofN D k fi pl = ov := ⟨_, rfl⟩
      rw [hov] at k4 HRG HFUL
      have HOV := Lib.hid hov
      clear hc5 hca hcc hvb k2 k3 hbx hov
      go_wp2_with fail
      obtain ⟨w6, hw6⟩ : ∃ w6, w5.alloc (.cells #[.bool true, .int .i64 (fi : Int), .int .i64 (pl : Int), .int .i64 (pgAt D k).value, .int .i64 (pgAt D k).stamp] 80) = w6 := ⟨_, rfl⟩
      obtain ⟨P0, hPe⟩ : ∃ P0, w5.heap.size = P0 := ⟨_, rfl⟩
      rw [hw6] at HBX HC6 HT6 v0 k1 k4
      rw [hPe] at HBX
      rw [hw6, hPe]
      have hbx1 := HBX.out.cell 1
      have hbx2 := HBX.out.cell 2
      have hbx4 := HBX.out.cell 4
      replace hbx1 := hbx1.trans (show _ = some (Value.int .i64 (fi : Int)) from rfl)
      replace hbx2 := hbx2.trans (show _ = some (Value.int .i64 (pl : Int)) from rfl)
      replace hbx4 := hbx4.trans (show _ = some (Value.int .i64 (stampOf D k)) from rfl)
      have HDQ := Lib.hid (HD4.out.chg HC6.out (fun i h1 h2 => by omega))
      obtain ⟨rp, hrp⟩ : ∃ rp, readPage D ov = rp := ⟨_, rfl⟩
      have HRP := Lib.hid (show ∀ wq, Chg NoB w6 wq → Calls Try.prog 111 #[.slice A0 D.length c0, .int .i64 ov] wq fun e w' => e = .returned (.tuple #[pval rp, .bool rp.full]) ∧ Chg NoB wq w' from fun wq hq => by rw [← hrp]; exact sReadPage_any _ A0 c0 D ov wq (HDQ.out.new hq) HS.out)
      have HRPE := Lib.hid hrp
      clear hw6 hPe hf hfi hpl hrp
      refine wp_region_rg (WInv := fun _ m w5 => Chg NoB w6 w5 ∧ BoxI w6.heap.size 80 #[.bool false, .int .i64 0, .int .i64 0, .int .i64 0, .int .i64 0] 15 16 13 m w5) (R := RBox NoB w6.heap.size 80) (Post := PL [fun v _ => v = .slice A0 D.length c0, fun v _ => v = .pointer (some ⟨V, 0, none⟩), fun v _ => v = .slice (some ⟨g, 0, none⟩) 8 c', fun v _ => v = .pointer (some ⟨P0, 1, none⟩), fun v _ => v = .int .i64 (fi : Int), fun v _ => v = .pointer (some ⟨g, fi, none⟩), fun v _ => v = .slice (some ⟨gf, 0, none⟩) 6 cf, fun v _ => v = .pointer (some ⟨P0, 2, none⟩), fun v _ => v = .int .i64 (pl : Int), fun v _ => v = .pointer (some ⟨gf, pl, none⟩), fun v _ => v = .int .i64 ov, fun v _ => v = .tuple #[pval rp, .bool rp.full], fun v _ => v = .tuple #[pval rp, .bool rp.full], fun v _ => v = pval rp, fun v _ => v = .bool rp.full, fun _ _ => True, fun _ _ => True, fun v _ => v = .bool rp.full]) (by kernel_rfl) (by kernel_rfl) (fun _ _ _ _ h _ _ => h) (pl_stab ⟨(fun _ _ _ h _ => h), (fun _ _ _ h _ => h), (fun _ _ _ h _ => h), (fun _ _ _ h _ => h), (fun _ _ _ h _ => h), (fun _ _ _ h _ => h), (fun _ _ _ h _ => h), (fun _ _ _ h _ => h), (fun _ _ _ h _ => h), (fun _ _ _ h _ => h), (fun _ _ _ h _ => h), (fun _ _ _ h _ => h), (fun _ _ _ h _ => h), (fun _ _ _ h _ => h), (fun _ _ _ h _ => h), (fun _ _ _ _ _ => trivial), (fun _ _ _ _ _ => trivial), (fun _ _ _ h _ => h), trivial⟩) ⟨(Chg.refl _ _).drew, BoxI.start⟩ ⟨?_, ?_, ?_, ?_, ?_, ?_, ?_, ?_, ?_, ?_, ?_, ?_, ?_, ?_, ?_, ?_, ?_, ?_, trivial⟩ ?_
      · rintro kc m a w5 hkc ⟨hch, hbx⟩ hm hn
        have e1 : a.tmps[0]?.getD undef = .slice A0 D.length c0 := hn.1
        exact rg_val (v := .slice A0 D.length c0) (by simp [execOp, go_sem, e1]) rfl ⟨hch, hbx.keep (by decide) (by decide) hm (Chg.refl NoB _) (fun _ _ x => x)⟩ (Chg.refl _ _) rfl
      · rintro kc m a w5 hkc ⟨hch, hbx⟩ hm hn
        have e1 : a.tmps[3]?.getD undef = .pointer (some ⟨V, 0, none⟩) := hn.1
        exact rg_val (v := .pointer (some ⟨V, 0, none⟩)) (by simp [execOp, go_sem, e1]) rfl ⟨hch, hbx.keep (by decide) (by decide) hm (Chg.refl NoB _) (fun _ _ x => x)⟩ (Chg.refl _ _) rfl
      · rintro kc m a w5 hkc ⟨hch, hbx⟩ hm hn
        obtain ⟨⟨_, e1, _, rfl⟩, -⟩ := hn
        have c0 := Chg.cell hch v0 (fun x => x)
        exact rg_val (v := .slice (some ⟨g, 0, none⟩) 8 c') (by simp [execOp, go_sem, e1, c0]) rfl ⟨hch, hbx.keep (by decide) (by decide) hm (Chg.refl NoB _) (fun _ _ x => x)⟩ (Chg.refl _ _) rfl
      · rintro kc m a w5 hkc ⟨hch, hbx⟩ hm hn
        have e1 : a.tmps[5]?.getD undef = .pointer (some ⟨P0, 0, none⟩) := hn.1
        exact rg_val (v := .pointer (some ⟨P0, 1, none⟩)) (by simp [execOp, go_sem, e1]) rfl ⟨hch, hbx.keep (by decide) (by decide) hm (Chg.refl NoB _) (fun _ _ x => x)⟩ (Chg.refl _ _) rfl
      · rintro kc m a w5 hkc ⟨hch, hbx⟩ hm hn
        obtain ⟨⟨_, e1, _, rfl⟩, -⟩ := hn
        have c0 := Chg.cell hch hbx1 (fun x => x)
        exact rg_val (v := .int .i64 (fi : Int)) (by simp [execOp, go_sem, e1, c0]) rfl ⟨hch, hbx.keep (by decide) (by decide) hm (Chg.refl NoB _) (fun _ _ x => x)⟩ (Chg.refl _ _) rfl
      · rintro kc m a w5 hkc ⟨hch, hbx⟩ hm hn
        obtain ⟨⟨_, e1, _, rfl⟩, ⟨_, e2, _, rfl⟩, -⟩ := hn
        exact rg_val (v := .pointer (some ⟨g, fi, none⟩)) (by simp [execOp, go_sem, e1, e2]; exact fun hh => absurd hh (by omega)) rfl ⟨hch, hbx.keep (by decide) (by decide) hm (Chg.refl NoB _) (fun _ _ x => x)⟩ (Chg.refl _ _) rfl
      · rintro kc m a w5 hkc ⟨hch, hbx⟩ hm hn
        obtain ⟨⟨_, e1, _, rfl⟩, -⟩ := hn
        have c0 := Chg.cell hch k1 (fun x => x)
        exact rg_val (v := .slice (some ⟨gf, 0, none⟩) 6 cf) (by simp [execOp, go_sem, e1, c0]) rfl ⟨hch, hbx.keep (by decide) (by decide) hm (Chg.refl NoB _) (fun _ _ x => x)⟩ (Chg.refl _ _) rfl
      · rintro kc m a w5 hkc ⟨hch, hbx⟩ hm hn
        have e1 : a.tmps[5]?.getD undef = .pointer (some ⟨P0, 0, none⟩) := hn.1
        exact rg_val (v := .pointer (some ⟨P0, 2, none⟩)) (by simp [execOp, go_sem, e1]) rfl ⟨hch, hbx.keep (by decide) (by decide) hm (Chg.refl NoB _) (fun _ _ x => x)⟩ (Chg.refl _ _) rfl
      · rintro kc m a w5 hkc ⟨hch, hbx⟩ hm hn
        obtain ⟨⟨_, e1, _, rfl⟩, -⟩ := hn
        have c0 := Chg.cell hch hbx2 (fun x => x)
        exact rg_val (v := .int .i64 (pl : Int)) (by simp [execOp, go_sem, e1, c0]) rfl ⟨hch, hbx.keep (by decide) (by decide) hm (Chg.refl NoB _) (fun _ _ x => x)⟩ (Chg.refl _ _) rfl
      · rintro kc m a w5 hkc ⟨hch, hbx⟩ hm hn
        obtain ⟨⟨_, e1, _, rfl⟩, ⟨_, e2, _, rfl⟩, -⟩ := hn
        exact rg_val (v := .pointer (some ⟨gf, pl, none⟩)) (by simp [execOp, go_sem, e1, e2]; exact fun hh => absurd hh (by omega)) rfl ⟨hch, hbx.keep (by decide) (by decide) hm (Chg.refl NoB _) (fun _ _ x => x)⟩ (Chg.refl _ _) rfl
      · rintro kc m a w5 hkc ⟨hch, hbx⟩ hm hn
        obtain ⟨⟨_, e1, _, rfl⟩, -⟩ := hn
        have c0 := Chg.cell hch k4 (fun x => x)
        exact rg_val (v := .int .i64 ov) (by simp [execOp, go_sem, e1, c0]) rfl ⟨hch, hbx.keep (by decide) (by decide) hm (Chg.refl NoB _) (fun _ _ x => x)⟩ (Chg.refl _ _) rfl
      · rintro kc m a w5 hkc ⟨hch, hbx⟩ hm hn
        obtain ⟨⟨_, e1, _, rfl⟩, ⟨_, e2, _, rfl⟩, -⟩ := hn
        refine rg_call (f := 111) (args := #[.slice A0 D.length c0, .int .i64 ov]) (by simp [go_sem, e1, e2]) rfl ?_
        refine (HRP.out _ hch).mono ?_
        rintro e w9 ⟨rfl, hc9⟩
        exact ⟨_, rfl, ⟨hch.trans hc9, hbx.keep (by decide) (by decide) hm hc9 (fun _ _ x => x)⟩, RBox.of hc9 (fun _ x => x), rfl⟩
      · rintro kc m a w5 hkc ⟨hch, hbx⟩ hm hn
        obtain ⟨⟨_, e1, _, rfl⟩, -⟩ := hn
        exact rg_val (v := .tuple #[pval rp, .bool rp.full]) (by simp [execOp, go_sem, e1]) rfl ⟨hch, hbx.keep (by decide) (by decide) hm (Chg.refl NoB _) (fun _ _ x => x)⟩ (Chg.refl _ _) rfl
      · rintro kc m a w5 hkc ⟨hch, hbx⟩ hm hn
        obtain ⟨⟨_, e1, _, rfl⟩, -⟩ := hn
        exact rg_val (v := pval rp) (by simp [execOp, go_sem, e1]) rfl ⟨hch, hbx.keep (by decide) (by decide) hm (Chg.refl NoB _) (fun _ _ x => x)⟩ (Chg.refl _ _) rfl
      · rintro kc m a w5 hkc ⟨hch, hbx⟩ hm hn
        obtain ⟨⟨_, e1, _, rfl⟩, -⟩ := hn
        exact rg_val (v := .bool rp.full) (by simp [execOp, go_sem, e1]) rfl ⟨hch, hbx.keep (by decide) (by decide) hm (Chg.refl NoB _) (fun _ _ x => x)⟩ (Chg.refl _ _) rfl
      · rintro kc m a w5 hkc ⟨hch, hbx⟩ hm hn
        have hca : Chg NoB w5 (w5.alloc (.cells #[.bool false, .int .i64 0, .int .i64 0, .int .i64 0, .int .i64 0] 80)) := (Chg.refl _ _).alloc _
        exact rg_val (v := .pointer (some ⟨w5.heap.size, 0, none⟩)) (w' := w5.alloc (.cells #[.bool false, .int .i64 0, .int .i64 0, .int .i64 0, .int .i64 0] 80)) (by simp [execOp, go_sem]) rfl ⟨hch.alloc _, hbx.alloc (by decide) hm hch.size⟩ (RBox.of hca (fun _ x => x.elim)) trivial
      · rintro kc m a w5 hkc ⟨hch, hbx⟩ hm hn
        obtain ⟨⟨p, e1, hma, _⟩, ⟨v5, e2, hmv, hv5⟩, -⟩ := hn
        obtain rfl : v5 = pval rp := hv5
        obtain ⟨bx, rfl, hB, hb⟩ := hbx.ready hm hma
        have f0 := hb.frozen 0
        have f1 := hb.frozen 1
        have f2 := hb.frozen 2
        have f3 := hb.frozen 3
        have f4 := hb.frozen 4
        have x0 : w5.cell? ⟨bx, 0, none⟩ = some (.bool false) := (hb.cell _).trans rfl
        have x1 : w5.cell? ⟨bx, 1, none⟩ = some (.int .i64 0) := (hb.cell _).trans rfl
        have x2 : w5.cell? ⟨bx, 2, none⟩ = some (.int .i64 0) := (hb.cell _).trans rfl
        have x3 : w5.cell? ⟨bx, 3, none⟩ = some (.int .i64 0) := (hb.cell _).trans rfl
        have x4 : w5.cell? ⟨bx, 4, none⟩ = some (.int .i64 0) := (hb.cell _).trans rfl
        have hst : Chg (· = bx) w5 (((((w5.setCell ⟨bx, 0, none⟩ (.bool rp.full)).setCell ⟨bx, 1, none⟩ (.int .i64 rp.file)).setCell ⟨bx, 2, none⟩ (.int .i64 rp.place)).setCell ⟨bx, 3, none⟩ (.int .i64 rp.value)).setCell ⟨bx, 4, none⟩ (.int .i64 rp.stamp)) := ((((((Chg.refl (· = bx) w5).setCell (p := ⟨bx, 0, none⟩) (.inl rfl) _).setCell (p := ⟨bx, 1, none⟩) (.inl rfl) _).setCell (p := ⟨bx, 2, none⟩) (.inl rfl) _).setCell (p := ⟨bx, 3, none⟩) (.inl rfl) _).setCell (p := ⟨bx, 4, none⟩) (.inl rfl) _)
        have hb' : Blk (((((w5.setCell ⟨bx, 0, none⟩ (.bool rp.full)).setCell ⟨bx, 1, none⟩ (.int .i64 rp.file)).setCell ⟨bx, 2, none⟩ (.int .i64 rp.place)).setCell ⟨bx, 3, none⟩ (.int .i64 rp.value)).setCell ⟨bx, 4, none⟩ (.int .i64 rp.stamp)) bx 80 #[.bool rp.full, .int .i64 rp.file, .int .i64 rp.place, .int .i64 rp.value, .int .i64 rp.stamp] := (((((hb.set_ 0 _).set_ 1 _).set_ 2 _).set_ 3 _).set_ 4 _)
        exact rg_skip (w' := (((((w5.setCell ⟨bx, 0, none⟩ (.bool rp.full)).setCell ⟨bx, 1, none⟩ (.int .i64 rp.file)).setCell ⟨bx, 2, none⟩ (.int .i64 rp.place)).setCell ⟨bx, 3, none⟩ (.int .i64 rp.value)).setCell ⟨bx, 4, none⟩ (.int .i64 rp.stamp))) (by simp [execOp, go_sem, e1, e2, x0, x1, x2, x3, x4, f0, f1, f2, f3, f4]) rfl ⟨hch.own hst hB, BoxI.store (by decide) (by decide) hma hB hmv hb'⟩ (RBox.box hst hB hb) trivial
      · rintro kc m a w5 hkc ⟨hch, hbx⟩ hm hn
        obtain ⟨⟨_, e1, _, rfl⟩, -⟩ := hn
        exact rg_val (v := .bool rp.full) (by simp [execOp, go_sem, e1]) rfl ⟨hch, hbx.keep (by decide) (by decide) hm (Chg.refl NoB _) (fun _ _ x => x)⟩ (Chg.refl _ _) rfl
      rintro m w7 ⟨hch7, hbx⟩
      simp only [AllVals]
      rintro rv0 m0 p0 rv1 m1 p1 rv2 m2 p2 rv3 m3 p3 rv4 m4 p4 rv5 m5 p5 rv6 m6 p6 rv7 m7 p7 rv8 m8 p8 rv9 m9 p9 rv10 m10 p10 rv11 m11 p11 rv12 m12 p12 rv13 m13 p13 rv14 m14 p14 rv15 m15 p15 rv16 m16 p16 rv17 m17 p17
      obtain rfl := p13
      obtain rfl := p17
      obtain ⟨P1, rfl, hP1, hb1⟩ := hbx.done m15 m16 m13
      have hbb : Blk w7 P1 80 #[.bool rp.full, .int .i64 rp.file, .int .i64 rp.place, .int .i64 rp.value, .int .i64 rp.stamp] := hb1
      clear hb1 hbx p0 p1 p2 p3 p4 p5 p6 p7 p8 p9 p10 p11 p12 p14 p15 p16
      simp only [Act.put, List.setIfInBounds_toArray, List.set_cons_succ, List.set_cons_zero]
      have HC7 := Lib.hid (HC6.out.trans (hch7.mono (fun _ _ h => h.elim)))
      have HT7 := Lib.hid (HT6.out.new hch7)
      have x4 := hch7.cell hbx4 (fun x => x)
      have y4 := hbb.cell 4
      replace y4 := y4.trans (show _ = some (Value.int .i64 rp.stamp) from rfl)
      have v0' := hch7.cell v0 (fun x => x)
      have b1' := hch7.cell hbx1 (fun x => x)
      have b2' := hch7.cell hbx2 (fun x => x)
      obtain ⟨gf', cf', r1, r2, r3, r4, r5, -, -, r8⟩ := HT7.out.spot HTA.out hfi8 hpl6
      have k1' := hch7.cell k1 (fun x => x)
      rw [k1'] at r1
      injection r1 with r1
      injection r1 with r1 _ q2
      injection r1 with r1
      injection r1 with r1
      subst r1 q2
      obtain ⟨Tm, hTm, hLm⟩ := r8 (k : Int)
      have HTM := Lib.hid hTm
      have HLM := Lib.hid hLm
      clear hch7 hbb hP1 v0 k1 k4 hbx1 hbx2 hbx4 r2 r3 r8 hTm hLm
      by_cases hneg : ov < 0
      · have HNX := Lib.hid (tofN_put (D := D) (n := k) (fi := fi) (pl := pl) HFU.out HFP.out.1 HFP.out.2 (.inl (by rw [HOV.out]; exact hneg)))
        have hfr : rp.full = false := by rw [← HRPE.out, readPage_no (fun hh => by omega)]; rfl
        go_wp2_with fail
        go_region
        go_wp2
        go_roundw
        case rel => exact ⟨k + 1, Tm, by omega, by go_num, (HC7.out.setCell (p := ⟨gf, pl, none⟩) (.inl HG.out) _).drew, HTM.out.new (Chg.refl NoB _).drew, Lib.hid (by rw [HNX.out]; exact HLM.out)⟩
        case measure => simp [intOf]; omega
      obtain ⟨o, rfl⟩ := Int.eq_ofNat_of_zero_le (show 0 ≤ ov by omega)
      have hok : o < 4 * D.length := by have := HRG.out; omega
      have hfr : rp.full = true := by rw [← HRPE.out, readPage_yes HD.out hok]; exact HFUL.out (by omega)
      have hsr : rp.stamp = stampOf D o := by rw [← HRPE.out, readPage_yes HD.out hok]; rfl
      by_cases hst : stampOf D o < stampOf D k
      · have HNX := Lib.hid (tofN_put (D := D) (n := k) (fi := fi) (pl := pl) HFU.out HFP.out.1 HFP.out.2 (.inr (by rw [HOV.out]; exact hst)))
        have hst' : stampOf D k > stampOf D o := hst
        go_wp2_with fail
        go_region
        go_wp2
        go_roundw
        case rel => exact ⟨k + 1, Tm, by omega, by go_num, (HC7.out.setCell (p := ⟨gf, pl, none⟩) (.inl HG.out) _).drew, HTM.out.new (Chg.refl NoB _).drew, Lib.hid (by rw [HNX.out]; exact HLM.out)⟩
        case measure => simp [intOf]; omega
      have HNX := Lib.hid (tofN_keep (D := D) (n := k) (fi := fi) (pl := pl) HFP.out.1 HFP.out.2 (by rw [HOV.out]; intro hh; rcases hh with hh | hh; exact hneg hh; exact hst hh))
      have hst' : ¬ stampOf D k > stampOf D o := hst
      go_wp2
      go_roundw
      case rel => exact ⟨k + 1, Ta, by omega, by go_num, HC7.out, HT7.out, Lib.hid (by rw [HNX.out]; exact HTA.out)⟩
      case measure => simp [intOf]; omega
end Go.Proofs.Ytpiojofmflfkkaa
/- TablePut of the reference, on a table that is valid. -/
namespace Go.Proofs.Ytpiojofmflfkkaa
open Go.RowKit
def PutP (w : World) (e : Ending) (w' : World) : Prop := ∃ A c T b, e = .returned (.tuple #[.agg #[.slice A 8 c], .bool b]) ∧ tabOk (listsOf T) ∧ Chg NoB w w' ∧ TabO w.heap.size w'.heap.size w' A c T
set_option maxRecDepth 100000 in
set_option maxHeartbeats 1000000 in
theorem TablePut_any (F : Nat → Prop) (A : Option Addr) (c : Nat) (X : List (List Int)) (w : World) (h : TabR F w A X) (hX : tabOk X) (f k v : Nat) (hf : f < 8) (hk : k < 6) (hv : v < 48) :
    Calls Try.prog 158 #[.agg #[.slice A 8 c], .int .i64 f, .int .i64 k, .int .i64 v] w (PutP w) := by
  obtain ⟨hb1, hb2, hcb⟩ := lit2 w 31 31 #[.slice A 8 c] #[.slice none 0 0]
  have HB1 := Lib.hid hb1
  have HB2 := Lib.hid hb2
  have HC0 := Lib.hid hcb
  have h0 := Lib.hid (h.lt.new hcb)
  have HX := Lib.hid hX
  have HS := Lib.hid (tabOk_small hX)
  have hcv := sTableValid_any _ A c X _ h0.out HS.out.2.1 HS.out.2.2
  rw [hX.1] at hcv
  have HCV := Lib.hid hcv
  have hi0 : (0 : Int) ≤ (f : Int) := Int.natCast_nonneg _
  have hi1 : (f : Int) < 8 := by omega
  have hk0 : (0 : Int) ≤ (k : Int) := Int.natCast_nonneg _
  have hk1 : (k : Int) < 6 := by omega
  have hv0 : (0 : Int) ≤ (v : Int) := Int.natCast_nonneg _
  have hv1 : (v : Int) < 48 := by omega
  clear hb1 hb2 hcb hX hcv
  go_enter Try.func158, Try.ntmps158
  go_wp2_with fail
  refine HCV.out.mono ?_
  rintro e w1 ⟨r, rfl, hr, hc1⟩
  obtain rfl : r = true := hr.2 HX.out
  have HC1 := Lib.hid (HC0.out.trans hc1)
  have HA1 := Lib.hid (HB1.out.chg hc1 (fun x => x))
  have HR1 := Lib.hid (HB2.out.chg hc1 (fun x => x))
  have HT1 := Lib.hid (h0.out.new hc1)
  have x0 : w1.cell? ⟨w.heap.size, 0, none⟩ = some (.slice A 8 c) := (HA1.out.cell _).trans rfl
  clear hr hc1 HCV
  go_wp2_with fail
  refine (l1In_t (f : Int) 0 7 _ ⟨by omega, by omega⟩).mono ?_
  rintro e w' ⟨rfl, rfl⟩
  go_wp2_with fail
  refine (l1In_t (k : Int) 0 5 _ ⟨by omega, by omega⟩).mono ?_
  rintro e w' ⟨rfl, rfl⟩
  go_wp2_with fail
  refine (l1In_t (v : Int) (-1) 47 _ ⟨by omega, by omega⟩).mono ?_
  rintro e w' ⟨rfl, rfl⟩
  have hcc := l7Copy_any _ A c X _ HT1.out HX.out
  rw [HX.out.1] at hcc
  have HCC := Lib.hid hcc
  clear hcc
  go_wp2_with fail
  refine HCC.out.mono ?_
  rintro e w2 ⟨A1, c1, T1, rfl, hT1, hc2, hO1⟩
  have HC2 := Lib.hid (HC1.out.trans hc2)
  have HA2 := Lib.hid (HA1.out.chg hc2 (fun x => x))
  have HR2 := Lib.hid (HR1.out.chg hc2 (fun x => x))
  have HT2 := Lib.hid (HT1.out.new hc2)
  have HS2 := Lib.hid hc2.size
  have HRL := Lib.hid HR1.out.lt
  have hca := (Chg.refl NoB w2).alloc (.cells #[.slice A1 8 c1] 31)
  have hbV := Blk.new w2 31 #[.slice A1 8 c1]
  obtain ⟨wa, hwa⟩ : ∃ wa, w2.alloc (.cells #[.slice A1 8 c1] 31) = wa := ⟨_, rfl⟩
  have hsa : wa.heap.size = w2.heap.size + 1 := by rw [← hwa, World.size_alloc]
  have hOa := hO1.new hca
  have hT8 : T1.length = 8 := by rw [← listsOf_length, hT1]; exact HX.out.1
  have hfT : f < T1.length := by omega
  have hfX : f < X.length := by rw [HX.out.1]; exact hf
  have h6 : X[f].length = 6 := (HX.out.2 f hfX).1
  have hxs : T1[f].xs = X[f] := by
    have h1 : (listsOf T1)[f]'(by rw [listsOf_length]; exact hfT) = T1[f].xs := by simp [listsOf]
    rw [← h1]; simp [hT1]
  have hl6 : T1[f].xs.length = 6 := by rw [hxs, h6]
  obtain ⟨ad, he, hB1, hE1, hcell⟩ := hOa.at_ hfT
  subst he
  rw [hl6] at hcell
  have hok := hOa.2.1 T1[f] (List.getElem_mem hfT)
  have hrc := row_cell hok.2.2.1 (k := k) (by omega)
  have hrf := hok.2.2.1.frozen k
  have hstore := row_store hok.2.2.1 (k := k) (by omega) (v : Int)
  have hcs := (Chg.refl (· = T1[f].g) (w2.alloc (.cells #[.slice (some ad) 8 c1] 31))).setCell (p := ⟨T1[f].g, k, none⟩) (.inl rfl) (.int .i64 (v : Int))
  have HG := Lib.hid (show w1.heap.size ≤ T1[f].g ∧ T1[f].g < w2.heap.size from ⟨hok.1, hok.2.1⟩)
  have hN := hOa.setRow hfT hcs (by rw [List.length_set]) hstore
  obtain ⟨X2, hX2⟩ : ∃ X2, X.set f (X[f].set k (v : Int)) = X2 := ⟨_, rfl⟩
  have hL : listsOf (T1.set f ⟨T1[f].g, T1[f].c, T1[f].xs.set k (v : Int), T1[f].rest⟩) = X2 := by rw [rows_lists, hT1, ← hX2]; simp only; rw [hxs]
  have hX28 : X2.length = 8 := by rw [← hX2, List.length_set]; exact HX.out.1
  have hX2r : ∀ r ∈ X2, r.length ≤ 9223372036854775807 := fun r hr => by
    rw [← hX2] at hr
    rcases List.mem_or_eq_of_mem_set hr with h1 | rfl
    · exact HS.out.2.2 r h1
    · rw [List.length_set, h6]; omega
  have hrd := hN.reads
  rw [hL] at hrd
  have hcv := sTableValid_any _ (some ad) c1 X2 _ hrd (by omega) hX2r
  rw [hX28] at hcv
  obtain ⟨gf, hgf⟩ : ∃ gf, T1[f].g = gf := ⟨_, rfl⟩
  obtain ⟨xk, hxk⟩ : ∃ xk, T1[f].xs[k]'(by omega) = xk := ⟨_, rfl⟩
  obtain ⟨cf, hcf⟩ : ∃ cf, T1[f].c = cf := ⟨_, rfl⟩
  obtain ⟨Tn, hTn⟩ : ∃ Tn, T1.set f ⟨T1[f].g, T1[f].c, T1[f].xs.set k (v : Int), T1[f].rest⟩ = Tn := ⟨_, rfl⟩
  rw [hTn] at hN hL
  rw [hgf, hcf] at hcell
  rw [hgf, hxk] at hrc
  rw [hgf] at hrf HG hcs hcv hN
  have vV := (hcs.cell ((hbV.cell 0).trans (show _ = some (Value.slice (some ad) 8 c1) from rfl)) (by simp only; have := HG.out; omega) : _)
  rw [hwa] at hca hbV hcs hcv hN
  have HWA := Lib.hid hwa
  have HCA := Lib.hid hca
  have HBV := Lib.hid hbV
  have HSA := Lib.hid hsa
  have HCS := Lib.hid hcs
  have HCV := Lib.hid hcv
  have HN := Lib.hid hN
  have HL := Lib.hid hL
  clear hwa hca hbV hsa hcs hcv hN hL hOa hT8 hfX h6 hxs hl6 hB1 hE1 hok hstore hX2 hX28 hX2r hrd hTn hgf hxk hcf hT1 hc2 hO1 x0
  go_wp2_with fail
  rw [HWA.out]
  refine HCV.out.mono ?_
  rintro e w6 ⟨r2, rfl, hr2, hc6⟩
  have HRR := Lib.hid hr2
  have HC6 := Lib.hid hc6
  have hg := HG.out
  have hrl := HRL.out
  have hs2 := HS2.out
  have hA6 := ((HA2.out.chg HCA.out (fun x => x)).chg HCS.out (by have := HA2.out.lt; omega)).chg hc6 (fun x => x)
  have hR6 := ((HR2.out.chg HCA.out (fun x => x)).chg HCS.out (by omega)).chg hc6 (fun x => x)
  have hV6 := (HBV.out.chg HCS.out (by omega)).chg hc6 (fun x => x)
  have v6 : w6.cell? ⟨w2.heap.size, 0, none⟩ = some (.slice (some ad) 8 c1) := (hV6.cell _).trans rfl
  have a6 : w6.cell? ⟨w.heap.size, 0, none⟩ = some (.slice A 8 c) := (hA6.cell _).trans rfl
  have r6 : w6.cell? ⟨w.heap.size + 1, 0, none⟩ = some (.slice none 0 0) := (hR6.cell _).trans rfl
  have rf6 := hR6.frozen 0
  have HR6 := Lib.hid hR6
  have hC6 : Chg NoB w w6 := ((HC2.out.trans HCA.out).trans' HCS.out (fun i hi => .inr (by omega))).trans hc6
  have HC7 := Lib.hid hC6
  have HT6 := Lib.hid (((HT2.out.new HCA.out).chg HCS.out (fun i hi he => by have := hi.2; omega)).new hc6)
  have HN6 := Lib.hid (HN.out.new hc6)
  have HSC := Lib.hid (show w.heap.size ≤ w1.heap.size from by omega)
  have HS6 := Lib.hid (show w2.heap.size ≤ w6.heap.size from by have h1 := HCA.out.size; have h2 := HCS.out.size; have h3 := hc6.size; omega)
  clear hr2 hc6 hg hrl hs2 hA6 hR6 hV6 hC6 vV hcell hrc hrf
  cases r2
  · have hcc := l7Copy_any _ A c X _ HT6.out HX.out
    rw [HX.out.1] at hcc
    have HCC := Lib.hid hcc
    clear hcc
    go_wp2_with fail
    refine HCC.out.mono ?_
    rintro e w7 ⟨A7, c7, T7, rfl, hT7, hc7, hO7⟩
    have HO7 := Lib.hid hO7
    have HT7 := Lib.hid hT7
    have HCF := Lib.hid (HC7.out.trans hc7)
    have hR7 := HR6.out.chg hc7 (fun x => x)
    have r7 : w7.cell? ⟨w.heap.size + 1, 0, none⟩ = some (.slice none 0 0) := (hR7.cell _).trans rfl
    have rf7 := hR7.frozen 0
    have HRL7 := Lib.hid HR6.out.lt
    clear hR7 hc7 hO7 hT7 r6 rf6 a6 v6
    go_wp2_with fail
    (try simp only [Exit.inBlock, Exit.then])
    refine bodyPost_ret (v := .tuple #[.agg #[.slice A7 8 c7], .bool false]) (by simp [results, Try.results158, go_sem, *]) rfl ?_
    have hcs : Chg (· = w.heap.size + 1) w7 (w7.setCell ⟨w.heap.size + 1, 0, none⟩ (.slice A7 8 c7)) := (Chg.refl (· = w.heap.size + 1) w7).setCell (p := ⟨w.heap.size + 1, 0, none⟩) (.inl rfl) _
    have hss : (w7.setCell ⟨w.heap.size + 1, 0, none⟩ (.slice A7 8 c7)).heap.size = w7.heap.size := World.size_setCell _ _ _
    have hrl7 := HRL7.out
    refine ⟨A7, c7, T7, false, rfl, by rw [HT7.out]; exact HX.out, HCF.out.own hcs (Nat.le_succ _), ?_⟩
    exact (HO7.out.chg hcs (fun i h1 h2 h3 => by omega)).more (by omega) (by rw [hss]; omega)
  · go_wp2_with fail
    (try simp only [Exit.inBlock, Exit.then])
    refine bodyPost_ret (v := .tuple #[.agg #[.slice (some ad) 8 c1], .bool true]) (by simp [results, Try.results158, go_sem, *]) rfl ?_
    have hcs : Chg (· = w.heap.size + 1) w6 (w6.setCell ⟨w.heap.size + 1, 0, none⟩ (.slice (some ad) 8 c1)) := (Chg.refl (· = w.heap.size + 1) w6).setCell (p := ⟨w.heap.size + 1, 0, none⟩) (.inl rfl) _
    have hss : (w6.setCell ⟨w.heap.size + 1, 0, none⟩ (.slice (some ad) 8 c1)).heap.size = w6.heap.size := World.size_setCell _ _ _
    have hrl := HRL.out
    have hsc := HSC.out
    have hs6 := HS6.out
    refine ⟨some ad, c1, Tn, true, rfl, by rw [HL.out]; exact HRR.out.1 (by simp), HC7.out.own hcs (Nat.le_succ _), ?_⟩
    exact (HN6.out.chg hcs (fun i h1 h2 h3 => by omega)).more (by omega) (by rw [hss]; omega)
end Go.Proofs.Ytpiojofmflfkkaa
/- The draw of a table. -/
namespace Go.Proofs.Ytpiojofmflfkkaa
open Go.RowKit
theorem ty_int_tab : (3 : Nat) ≠ 31 := by decide
theorem ty_ints_tab : (24 : Nat) ≠ 31 := by decide
theorem TabO.boxG {G : Nat → Prop} {B E B' : Nat} {U : TypeId} {w w' : World} {A : Option Addr} {c : Nat} {T : List RowO} (h : TabO B E w A c T) (hr : RBox G B' U w w') (hg : ∀ k, B ≤ k → ¬ G k) (ht : 24 ≠ U) (hi : 3 ≠ U) : TabO B E w' A c T :=
  ⟨h.1.box hr hg ht, ⟨fun r hr' => by
    obtain ⟨h1, h2, h3, h4⟩ := h.2.1 r hr'
    exact ⟨h1, h2, hr.blk h3 (hg _ h1) (.inr hi), h4⟩, h.2.2⟩⟩
def ltPost (g B : Nat) (u : Value) (i : Nat) : Value → World → Prop :=
  match i with
  | 0 => fun v _ => v = .agg #[u]
  | 1 | 3 | 5 => isPtr g
  | 2 => isNat 4
  | 4 => isNat 6
  | 6 => isNat 24
  | 7 | 8 => fun v w => ∃ A c T b, v = .tuple #[.agg #[.slice A 8 c], .bool b] ∧ TabO B w.heap.size w A c T ∧ tabOk (listsOf T)
  | 9 => fun v w => ∃ A c T, v = .agg #[.slice A 8 c] ∧ TabO B w.heap.size w A c T ∧ tabOk (listsOf T)
  | 10 | 13 => fun v _ => ∃ b, v = .bool b
  | _ => fun _ _ => True
theorem ltPost_stab {g B : Nat} {u : Value} {i : Nat} {v : Value} {w1 w2 : World} (hg : g < B) (h : ltPost g B u i v w1) (hc : RBox (· = g) B 31 w1 w2) : ltPost g B u i v w2 := by
  have hG : ∀ k, B ≤ k → ¬ k = g := fun k h1 h2 => by omega
  unfold ltPost at *
  split at h
  all_goals first
    | exact h
    | (obtain ⟨A, c, T, b, h1, h2, h3⟩ := h; exact ⟨A, c, T, b, h1, (h2.boxG hc hG ty_ints_tab ty_int_tab).more (Nat.le_refl _) hc.size, h3⟩)
    | (obtain ⟨A, c, T, h1, h2, h3⟩ := h; exact ⟨A, c, T, h1, (h2.boxG hc hG ty_ints_tab ty_int_tab).more (Nat.le_refl _) hc.size, h3⟩)
/-- A table that was drawn. -/
def TbV (B : Nat) (w : World) (ok : Prop) (v : Value) : Prop :=
  ∃ A c X, v = .agg #[.slice A (X : List (List Int)).length c] ∧ TabR (fun i => B ≤ i) w A X ∧ X.length ≤ 8 ∧ (∀ r ∈ X, r.length ≤ 6) ∧ (ok → tabOk X)
def TbDrawn (g N : Nat) (ok : Prop) (w : World) (e' : Ending) (w' : World) : Prop := ∃ v, e' = .returned v ∧ TbV w.heap.size w' ok v ∧ Chg (· = g) w w' ∧ Rdr w' g N
/-- A region that draws from the reader and stores once into block g0 (operation si). -/
def StoI (g g0 : Nat) (w4 : World) (P : World → Prop) (si : Nat) (m : Nat → Option Value) (w5 : World) : Prop :=
  Chg (fun k => k = g ∨ k = g0) w4 w5 ∧ (m si = none → Chg (· = g) w4 w5) ∧ (m si ≠ none → P w5)
theorem StoI.keep {g g0 : Nat} {w4 w5 w6 : World} {P : World → Prop} {si i : Nat} {m : Nat → Option Value} {v : Value} (h : StoI g g0 w4 P si m w5) (hi : i ≠ si) (hc : Chg (· = g) w5 w6) (hP : P w5 → P w6) : StoI g g0 w4 P si (upd m i v) w6 := by
  have e : upd m i v si = m si := if_neg (Ne.symm hi)
  refine ⟨h.1.trans (hc.mono fun _ _ x => .inl x), fun hh => ?_, fun hh => ?_⟩
  · rw [e] at hh; exact (h.2.1 hh).trans hc
  · rw [e] at hh; exact hP (h.2.2 hh)
theorem StoI.store {g g0 : Nat} {w4 w5 w6 : World} {P : World → Prop} {si : Nat} {m : Nat → Option Value} {x : Value} (h : StoI g g0 w4 P si m w5) (hc : Chg (· = g0) w5 w6) (hP : P w6) : StoI g g0 w4 P si (upd m si x) w6 := by
  have e : upd m si x si = some x := if_pos rfl
  refine ⟨h.1.trans (hc.mono fun _ _ x => .inr x), fun hh => ?_, fun _ => hP⟩
  rw [e] at hh; cases hh
def l2Post (g V gh g0 B : Nat) (c cc0 : Nat) (i : Nat) : Value → World → Prop :=
  match i with
  | 0 => isPtr V
  | 1 => fun v _ => v = .slice (some ⟨gh, 0, none⟩) 8 c
  | 2 => isPtr gh
  | 3 => fun v _ => v = .slice (some ⟨g0, 0, none⟩) 6 cc0
  | 4 => fun v w => ∃ b, v = .slice (some ⟨b, 0, none⟩) 2 2 ∧ B ≤ b ∧ Blk w b 3 #[.int .i64 (-2), .int .i64 48]
  | 5 => isPtr g
  | 6 => isNat 2
  | 7 => fun v w => ∃ b k, v = .pointer (some ⟨b, k, none⟩) ∧ B ≤ b ∧ k < 2 ∧ Blk w b 3 #[.int .i64 (-2), .int .i64 48]
  | 8 => isInt
  | 9 => isPtr g0
  | _ => fun _ _ => True
theorem l2Post_stab {g V gh g0 B c cc0 i : Nat} {v : Value} {w1 w2 : World} (hg : g < B) (hg0 : g0 < B) (h : l2Post g V gh g0 B c cc0 i v w1) (hc : Chg (fun k => k = g ∨ k = g0) w1 w2) : l2Post g V gh g0 B c cc0 i v w2 := by
  unfold l2Post at *
  split at h
  all_goals first
    | exact h
    | (obtain ⟨b, h1, h2, h3⟩ := h; exact ⟨b, h1, h2, h3.chg hc (by omega)⟩)
    | (obtain ⟨b, k, h1, h2, h3, h4⟩ := h; exact ⟨b, k, h1, h2, h3, h4.chg hc (by omega)⟩)
theorem TabO.head {B E : Nat} {w : World} {A : Option Addr} {c : Nat} {T : List RowO} (h : TabO B E w A c T) (hT : 0 < T.length) : ∃ gh rest, A = some ⟨gh, 0, none⟩ ∧ B ≤ gh ∧ gh < E ∧ Blk w gh 24 (T.map RowO.cell ++ rest).toArray := by
  rcases h.1.2 with ⟨h0, _⟩ | ⟨gh, rest, hA, hB, hE, hb⟩
  · omega
  · exact ⟨gh, rest, hA, hB, hE, hb⟩
theorem head_cell {w : World} {gh : Nat} {T : List RowO} {rest : List Value} (hb : Blk w gh 24 (T.map RowO.cell ++ rest).toArray) {f : Nat} (hf : f < T.length) : w.cell? ⟨gh, f, none⟩ = some (.slice (some ⟨T[f].g, 0, none⟩) T[f].xs.length T[f].c) := by
  rw [hb.cell]
  have hl : f < (T.map RowO.cell).length := by rw [List.length_map]; exact hf
  rw [List.getElem?_toArray, List.getElem?_append_left hl, List.getElem?_map, List.getElem?_eq_getElem hf]
  rfl
theorem TabO.cutFirst {B E : Nat} {w : World} {gh c : Nat} {T : List RowO} {rest : List Value} (h : TabO B E w (some ⟨gh, 0, none⟩) c T) (hb : Blk w gh 24 (T.map RowO.cell ++ rest).toArray) (hB : B ≤ gh) (hE : gh < E) (hT : 0 < T.length) (h6 : T[0].xs.length = 6) :
    TabR (fun i => B ≤ i ∧ i < E) (w.setCell ⟨gh, 0, none⟩ (.slice (some ⟨T[0].g, 1, none⟩) 5 (T[0].c - 1))) (some ⟨gh, 0, none⟩) ((listsOf T).set 0 T[0].xs.tail) := fun k hk => by
  have hk' : k < T.length := by simpa [listsOf] using hk
  have hb' := hb.set_ 0 (.slice (some ⟨T[0].g, 1, none⟩) 5 (T[0].c - 1))
  have hcs : Chg (· = gh) w (w.setCell ⟨gh, 0, none⟩ (.slice (some ⟨T[0].g, 1, none⟩) 5 (T[0].c - 1))) := (Chg.refl (· = gh) w).setCell (p := ⟨gh, 0, none⟩) (.inl rfl) _
  have hadd : ∀ (b : Nat) (j : Nat), (⟨b, 0, none⟩ : Addr).add j = ⟨b, j, none⟩ := fun b j => by unfold Addr.add; split <;> simp_all
  have hok := h.2.1 T[k] (List.getElem_mem hk')
  have hne : T[k].g ≠ gh := fun hh => ty_ne (hok.2.2.1.sameTy (by rw [hh]; exact hb))
  have hrow : Rd (fun i => B ≤ i ∧ i < E) (w.setCell ⟨gh, 0, none⟩ (.slice (some ⟨T[0].g, 1, none⟩) 5 (T[0].c - 1))) (some ⟨T[k].g, 0, none⟩) (icells T[k].xs) :=
    (RowO.ok.rd (B := T[k].g) (E := T[k].g + 1) (w := w.setCell ⟨gh, 0, none⟩ (.slice (some ⟨T[0].g, 1, none⟩) 5 (T[0].c - 1))) ⟨Nat.le_refl _, Nat.lt_succ_self _, hok.2.2.1.chg hcs hne, hok.2.2.2⟩).mono fun i _ hi => by have := hok.1; have := hok.2.1; omega
  have hcell := hb'.cell k
  have hl : k < (T.map RowO.cell).length := by rw [List.length_map]; exact hk'
  cases k with
  | zero =>
    refine ⟨⟨gh, 0, none⟩, some ⟨T[0].g, 1, none⟩, T[0].c - 1, rfl, ⟨hB, hE⟩, ?_, ?_, ?_⟩
    · have hlt : 0 < (List.map RowO.cell T ++ rest).length := by rw [List.length_append, List.length_map]; omega
      rw [hadd, hcell, List.setIfInBounds_toArray, List.getElem?_toArray, List.getElem?_set_self hlt]
      simp [h6]
    · have h1 := rd_drop hrow 1
      rw [hadd] at h1
      simp only [List.getElem_set_self]
      have e : icells T[0].xs.tail = (icells T[0].xs).drop 1 := by unfold icells; rw [← List.map_drop, List.drop_one]
      rw [e]
      exact h1
    · have := hok.2.2.2
      simp only [List.getElem_set_self, List.length_tail]; omega
  | succ k =>
    have e1 : ((listsOf T).set 0 T[0].xs.tail)[k + 1] = T[k + 1].xs := by simp [listsOf]
    refine ⟨⟨gh, 0, none⟩, some ⟨T[k + 1].g, 0, none⟩, T[k + 1].c, rfl, ⟨hB, hE⟩, ?_, ?_, ?_⟩
    · rw [hadd, e1, hcell, List.setIfInBounds_toArray, List.getElem?_toArray, List.getElem?_set_ne (by omega), List.getElem?_append_left hl, List.getElem?_map, List.getElem?_eq_getElem hk']
      rfl
    · rw [e1]; exact hrow
    · rw [e1]; exact hok.2.2.2
theorem TbDrawn.drew {g N : Nat} {ok : Prop} {w wq : World} {e : Ending} (h : TbDrawn g N ok w e wq) : TbDrawn g N ok w e wq.drew := by
  obtain ⟨v, he, ⟨A, c, X, hv, ht, h1, h2, h3⟩, hc, hd⟩ := h
  exact ⟨v, he, ⟨A, c, X, hv, ht.new (Chg.refl NoB wq).drew, h1, h2, h3⟩, hc.drew, hd.drew⟩
theorem tabOk_empty : tabOk (emptyRows 8) := by
  refine ⟨by simp [emptyRows], fun f hf => ?_⟩
  have : (emptyRows 8)[f] = List.replicate 6 (-1) := List.eq_of_mem_replicate (n := 8) (List.getElem_mem hf)
  rw [this]
  exact rowOk_blank _
set_option maxRecDepth 100000 in
set_option maxHeartbeats 1000000 in
theorem l20Table_any (g N : Nat) (n : Int) (w : World) (h : Rdr w g N) (hN : N ≤ 1000000) (hn0 : 0 ≤ n) (hn : n ≤ 1000000) :
    Calls Try.prog 124 #[.pointer (some ⟨g, 0, none⟩), .int .i64 n] w (TbDrawn g (N + 300) (n = 0) w) := by
  have hg0 := h.lt
  have hca := (Chg.refl NoB w).alloc (.cells #[.slice none 0 0] 31)
  have HR0 := Lib.hid (Blk.new w 31 #[.slice none 0 0])
  have HC0 := Lib.hid hca
  have HD0 := Lib.hid (h.alloc (.cells #[.slice none 0 0] 31))
  clear hca
  go_enter Try.func124, Try.ntmps124
  go_wp2_with fail
  refine (l7New_any _).mono ?_
  rintro e' w1 ⟨A1, c1, T1, rfl, hT1, hc1, hO1⟩
  have HT1 := Lib.hid hT1
  have HO1 := Lib.hid hO1
  have HC1 := Lib.hid (HC0.out.trans hc1)
  have HR1 := Lib.hid (HR0.out.chg hc1 (fun x => x))
  have HD1 := Lib.hid (HD0.out.chg hc1 (fun _ _ x => x))
  have HS1 := Lib.hid HR1.out.lt
  have hca := (Chg.refl NoB w1).alloc (.cells #[.slice A1 8 c1] 31)
  have HV0 := Lib.hid (Blk.new w1 31 #[.slice A1 8 c1])
  have HC2 := Lib.hid (HC1.out.trans hca)
  have HR2 := Lib.hid (HR1.out.chg hca (fun x => x))
  have HD2 := Lib.hid (HD1.out.chg hca (fun _ _ x => x))
  have HO2 := Lib.hid (HO1.out.new hca)
  have HSZ := Lib.hid (show (w1.alloc (.cells #[.slice A1 8 c1] 31)).heap.size = w1.heap.size + 1 by rw [World.size_alloc])
  clear hT1 hc1 hO1 hca
  go_wp2_with fail
  refine (pick_any g _ 12 _ HD2.out (by omega) (by omega) (by omega)).mono ?_
  rintro e' w2 ⟨k1, rfl, hk1, hc2, hr2⟩
  have HC3 := Lib.hid ((HC2.out.mono (fun _ _ x => x.elim) : Chg (· = g) w _).trans hc2)
  have HR3 := Lib.hid (HR2.out.chg hc2 (by omega))
  have HV3 := Lib.hid (HV0.out.chg hc2 (by have := HS1.out; omega))
  have HO3 := Lib.hid (HO2.out.chg hc2 (fun i h1 h2 h3 => by rw [World.size_alloc] at h1; omega))
  have HS3 := Lib.hid (show w1.heap.size < w2.heap.size by have := hc2.size; have := HSZ.out; omega)
  have hk1' : k1 ≤ 11 := by omega
  obtain ⟨V, hV⟩ : ∃ V, w1.heap.size = V := ⟨_, rfl⟩
  have hs1 := HS1.out
  have hs3 := HS3.out
  rw [hV] at HV3 HO3 hs1 hs3 ⊢
  replace HS1 := Lib.hid hs1
  replace HS3 := Lib.hid hs3
  clear hV hc2 hs1 hs3 HV0 HO2 HSZ HS3
  go_wp2_with fail
  go_loopw [6] (fun i wr => ∃ (k M : Nat) (A : Option Addr) (c : Nat) (T : List RowO) (B E : Nat), i = .int .i64 k ∧ k ≤ 11 ∧ Rdr wr g M ∧ M + 15 * k ≤ N + 200 ∧ Chg (· = g) w wr ∧ Blk wr w.heap.size 31 #[.slice none 0 0] ∧ Blk wr V 31 #[.slice A 8 c] ∧ TabO B E wr A c T ∧ Hid (tabOk (listsOf T)) ∧ w.heap.size < B ∧ E ≤ wr.heap.size ∧ (E ≤ V ∨ V < B)) (fun i _ => (intOf i).toNat)
  case atStart => exact ⟨k1, _, A1, c1, T1, _, _, rfl, hk1', hr2, by omega, HC3.out, HR3.out, HV3.out, HO3.out, Lib.hid (by rw [HT1.out]; exact tabOk_empty), by rw [World.size_alloc]; omega, by have := HV3.out.lt; omega, .inl (Nat.le_refl _)⟩
  case round =>
    obtain ⟨k, M, A, c, T, B, E, rfl, hk, hr, hM, hch0, hbH, hbV, hO, hok, hB, hE, hBE⟩ := hrel
    have HC := Lib.hid hch0
    have HH := Lib.hid hbH
    have HV := Lib.hid hbV
    have HO := Lib.hid hO
    have HOK := hok
    have v0 : wr.cell? ⟨V, 0, none⟩ = some (.slice A 8 c) := (hbV.cell _).trans rfl
    have hVlt := hbV.lt
    have HVlt := Lib.hid hbV.lt
    have hgV : g < V := by have := HS1.out; omega
    have hHV : w.heap.size < V := HS1.out
    by_cases hlt : 0 < k
    · have HTR := Lib.hid hO.reads
      clear hch0 hbH hbV hO
      go_wp2_with fail
      refine wp_region_rg (WInv := fun cc m w4 => Rdr w4 g (M + cc) ∧ Chg (· = g) wr w4 ∧ cc ≤ 14 ∧ BoxI wr.heap.size 31 #[.slice none 0 0] 11 12 9 m w4) (R := RBox (· = g) wr.heap.size 31) (Post := ltPost g wr.heap.size (.slice A 8 c)) (by kernel_rfl) (by kernel_rfl) ?_ (fun i v w1 w2 => ltPost_stab hr.lt) ⟨hr.drew, (Chg.refl _ _).drew, by omega, BoxI.start⟩ ?_ ?_
      · rintro c c' m w ⟨h1, h2, _, h5⟩ h3 h4
        exact ⟨h1.more (by omega), h2, h4, h5⟩
      refine ⟨?_, ?_, ?_, ?_, ?_, ?_, ?_, ?_, ?_, ?_, ?_, ?_, ?_, ?_, trivial⟩
      · rintro kc m a w4 hkc ⟨hrd, hch, hcc, hbx⟩ hm hn
        have e1 : a.tmps[5]?.getD undef = .pointer (some ⟨V, 0, none⟩) := hn.1
        have x0 := hch.cell v0 (by simp; omega)
        exact rg_val (v := .agg #[.slice A 8 c]) (by simp [execOp, go_sem, e1, x0]) rfl ⟨hrd.more (by omega), hch, hkc, hbx.keep (by decide) (by decide) hm (Chg.refl NoB _) (fun _ _ x => x)⟩ (Chg.refl _ _) rfl
      · rintro kc m a w4 hkc ⟨hrd, hch, hcc, hbx⟩ hm hn
        have e1 : a.tmps[0]?.getD undef = .pointer (some ⟨g, 0, none⟩) := hn.1
        exact rg_val (v := .pointer (some ⟨g, 0, none⟩)) (by simp [execOp, go_sem, e1]) rfl ⟨hrd.more (by omega), hch, hkc, hbx.keep (by decide) (by decide) hm (Chg.refl NoB _) (fun _ _ x => x)⟩ (Chg.refl _ _) rfl
      · rintro kc m a w4 hkc ⟨hrd, hch, hcc, hbx⟩ hm hn
        obtain ⟨⟨_, e1, _, rfl⟩, -⟩ := hn
        refine rg_call (f := 63) (args := #[.pointer (some ⟨g, 0, none⟩), .int .i64 4]) (by simp [go_sem, e1]) rfl ?_
        refine (pick_any g _ 4 _ hrd (by omega) (by omega) (by omega)).mono ?_
        rintro e' w5 ⟨kk, rfl, hkk, hc5, hr5⟩
        exact ⟨_, rfl, ⟨hr5, hch.trans hc5, hkc, hbx.keep (by decide) (by decide) hm hc5 (fun i hi he => by have := hr.lt; omega)⟩, RBox.of hc5 (fun _ x => x), kk, rfl, by omega⟩
      · rintro kc m a w4 hkc ⟨hrd, hch, hcc, hbx⟩ hm hn
        have e1 : a.tmps[0]?.getD undef = .pointer (some ⟨g, 0, none⟩) := hn.1
        exact rg_val (v := .pointer (some ⟨g, 0, none⟩)) (by simp [execOp, go_sem, e1]) rfl ⟨hrd.more (by omega), hch, hkc, hbx.keep (by decide) (by decide) hm (Chg.refl NoB _) (fun _ _ x => x)⟩ (Chg.refl _ _) rfl
      · rintro kc m a w4 hkc ⟨hrd, hch, hcc, hbx⟩ hm hn
        obtain ⟨⟨_, e1, _, rfl⟩, -⟩ := hn
        refine rg_call (f := 63) (args := #[.pointer (some ⟨g, 0, none⟩), .int .i64 6]) (by simp [go_sem, e1]) rfl ?_
        refine (pick_any g _ 6 _ hrd (by omega) (by omega) (by omega)).mono ?_
        rintro e' w5 ⟨kk, rfl, hkk, hc5, hr5⟩
        exact ⟨_, rfl, ⟨hr5, hch.trans hc5, hkc, hbx.keep (by decide) (by decide) hm hc5 (fun i hi he => by have := hr.lt; omega)⟩, RBox.of hc5 (fun _ x => x), kk, rfl, by omega⟩
      · rintro kc m a w4 hkc ⟨hrd, hch, hcc, hbx⟩ hm hn
        have e1 : a.tmps[0]?.getD undef = .pointer (some ⟨g, 0, none⟩) := hn.1
        exact rg_val (v := .pointer (some ⟨g, 0, none⟩)) (by simp [execOp, go_sem, e1]) rfl ⟨hrd.more (by omega), hch, hkc, hbx.keep (by decide) (by decide) hm (Chg.refl NoB _) (fun _ _ x => x)⟩ (Chg.refl _ _) rfl
      · rintro kc m a w4 hkc ⟨hrd, hch, hcc, hbx⟩ hm hn
        obtain ⟨⟨_, e1, _, rfl⟩, -⟩ := hn
        refine rg_call (f := 63) (args := #[.pointer (some ⟨g, 0, none⟩), .int .i64 24]) (by simp [go_sem, e1]) rfl ?_
        refine (pick_any g _ 24 _ hrd (by omega) (by omega) (by omega)).mono ?_
        rintro e' w5 ⟨kk, rfl, hkk, hc5, hr5⟩
        exact ⟨_, rfl, ⟨hr5, hch.trans hc5, hkc, hbx.keep (by decide) (by decide) hm hc5 (fun i hi he => by have := hr.lt; omega)⟩, RBox.of hc5 (fun _ x => x), kk, rfl, by omega⟩
      · rintro kc m a w4 hkc ⟨hrd, hch, hcc, hbx⟩ hm hn
        obtain ⟨⟨_, e1, _, rfl⟩, ⟨_, e2, _, k2, rfl, h2⟩, ⟨_, e3, _, k3, rfl, h3⟩, ⟨_, e4, _, k4, rfl, h4⟩, -⟩ := hn
        refine rg_call (f := 158) (args := #[.agg #[.slice A 8 c], .int .i64 k2, .int .i64 k3, .int .i64 k4]) (by simp [go_sem, e1, e2, e3, e4]) rfl ?_
        refine (TablePut_any _ A c (listsOf T) _ (HTR.out.chg hch (fun i hi he => by omega)) HOK.out k2 k3 k4 (by omega) (by omega) (by omega)).mono ?_
        rintro e' w5 ⟨A5, c5, T5, b5, rfl, hok5, hc5, hO5⟩
        exact ⟨_, rfl, ⟨(hrd.chg hc5 (fun _ _ x => x)).more (by omega), hch.trans' hc5 (fun _ x => x.elim), hkc, hbx.keep (by decide) (by decide) hm hc5 (fun _ _ x => x)⟩, RBox.of hc5 (fun _ x => x.elim), A5, c5, T5, b5, rfl, hO5.more hch.size (Nat.le_refl _), hok5⟩
      · rintro kc m a w4 hkc ⟨hrd, hch, hcc, hbx⟩ hm hn
        obtain ⟨⟨_, e1, _, A5, c5, T5, b5, rfl, ho, hok⟩, -⟩ := hn
        exact rg_val (v := .tuple #[.agg #[.slice A5 8 c5], .bool b5]) (by simp [execOp, go_sem, e1]) rfl ⟨hrd.more (by omega), hch, hkc, hbx.keep (by decide) (by decide) hm (Chg.refl NoB _) (fun _ _ x => x)⟩ (Chg.refl _ _) ⟨A5, c5, T5, b5, rfl, ho, hok⟩
      · rintro kc m a w4 hkc ⟨hrd, hch, hcc, hbx⟩ hm hn
        obtain ⟨⟨_, e1, _, A5, c5, T5, b5, rfl, ho, hok⟩, -⟩ := hn
        exact rg_val (v := .agg #[.slice A5 8 c5]) (by simp [execOp, go_sem, e1]) rfl ⟨hrd.more (by omega), hch, hkc, hbx.keep (by decide) (by decide) hm (Chg.refl NoB _) (fun _ _ x => x)⟩ (Chg.refl _ _) ⟨A5, c5, T5, rfl, ho, hok⟩
      · rintro kc m a w4 hkc ⟨hrd, hch, hcc, hbx⟩ hm hn
        obtain ⟨⟨_, e1, _, A5, c5, T5, b5, rfl, ho, hok⟩, -⟩ := hn
        exact rg_val (v := .bool b5) (by simp [execOp, go_sem, e1]) rfl ⟨hrd.more (by omega), hch, hkc, hbx.keep (by decide) (by decide) hm (Chg.refl NoB _) (fun _ _ x => x)⟩ (Chg.refl _ _) ⟨b5, rfl⟩
      · rintro kc m a w4 hkc ⟨hrd, hch, hcc, hbx⟩ hm hn
        have hca : Chg NoB w4 (w4.alloc (.cells #[.slice none 0 0] 31)) := (Chg.refl _ _).alloc _
        exact rg_val (v := .pointer (some ⟨w4.heap.size, 0, none⟩)) (w' := w4.alloc (.cells #[.slice none 0 0] 31)) (by simp [execOp, go_sem]) rfl ⟨(hrd.alloc _).more (by omega), hch.alloc _, hkc, hbx.alloc (by decide) hm hch.size⟩ (RBox.of hca (fun _ x => x.elim)) trivial
      · rintro kc m a w4 hkc ⟨hrd, hch, hcc, hbx⟩ hm hn
        obtain ⟨⟨p, e1, hma, _⟩, ⟨_, e2, hmv, A5, c5, T5, rfl, ho, hok⟩, -⟩ := hn
        obtain ⟨bx, rfl, hBx, hb⟩ := hbx.ready hm hma
        have f0 := hb.frozen 0
        have x0 : w4.cell? ⟨bx, 0, none⟩ = some (.slice none 0 0) := (hb.cell _).trans rfl
        have hst : Chg (· = bx) w4 (w4.setCell ⟨bx, 0, none⟩ (.slice A5 8 c5)) := (Chg.refl (· = bx) w4).setCell (p := ⟨bx, 0, none⟩) (.inl rfl) _
        have hb' : Blk (w4.setCell ⟨bx, 0, none⟩ (.slice A5 8 c5)) bx 31 #[.slice A5 8 c5] := hb.set_ 0 _
        exact rg_skip (w' := w4.setCell ⟨bx, 0, none⟩ (.slice A5 8 c5)) (by simp [execOp, go_sem, e1, e2, x0, f0]) rfl ⟨(hrd.chg hst (fun i hi he => by have := hr.lt; omega)).more (by omega), hch.own hst hBx, hkc, BoxI.store (by decide) (by decide) hma hBx hmv hb'⟩ (RBox.box hst hBx hb) trivial
      · rintro kc m a w4 hkc ⟨hrd, hch, hcc, hbx⟩ hm hn
        obtain ⟨⟨_, e1, _, b5, rfl⟩, -⟩ := hn
        exact rg_val (v := .bool b5) (by simp [execOp, go_sem, e1]) rfl ⟨hrd.more (by omega), hch, hkc, hbx.keep (by decide) (by decide) hm (Chg.refl NoB _) (fun _ _ x => x)⟩ (Chg.refl _ _) ⟨b5, rfl⟩
      rintro m w4 ⟨hrd, hch, -, hbx⟩
      simp only [AllVals]
      rintro v0 m0 p0 v1 m1 p1 v2 m2 p2 v3 m3 p3 v4 m4 p4 v5 m5 p5 v6 m6 p6 v7 m7 p7 v8 m8 p8 v9 m9 p9 v10 m10 p10 v11 m11 p11 v12 m12 p12 v13 m13 p13
      obtain ⟨A5, c5, T5, rfl, ho5, hok5⟩ := p9
      obtain ⟨b13, rfl⟩ := p13
      obtain ⟨bx, rfl, hBx, hb⟩ := hbx.done m11 m12 m9
      have b0 : w4.cell? ⟨bx, 0, none⟩ = some (.slice A5 8 c5) := (hb.cell _).trans rfl
      have hV4 := HV.out.chg hch (by omega)
      have x0 : w4.cell? ⟨V, 0, none⟩ = some (.slice A 8 c) := (hV4.cell _).trans rfl
      have f0 := hV4.frozen 0
      have HV4 := Lib.hid hV4
      have HO5 := Lib.hid ho5
      have HOK5 := Lib.hid hok5
      have HCH := Lib.hid hch
      have HRD := Lib.hid hrd
      clear p0 p1 p2 p3 p4 p5 p6 p7 p8 p10 p11 p12 hbx hb hV4 ho5 hok5 hch hrd
      simp only [Act.put, List.setIfInBounds_toArray, List.set_cons_succ, List.set_cons_zero]
      go_wp2_with fail
      go_roundw
      case rel =>
        have hcs : Chg (· = V) w4 (w4.setCell ⟨V, 0, none⟩ (.slice A5 8 c5)) := (Chg.refl (· = V) w4).setCell (p := ⟨V, 0, none⟩) (.inl rfl) _
        have hss : (w4.setCell ⟨V, 0, none⟩ (.slice A5 8 c5)).heap.size = w4.heap.size := World.size_setCell _ _ _
        have hvl := HVlt.out
        have hsz := HCH.out.size
        exact ⟨k - 1, M + 14, A5, c5, T5, _, _, by go_num, by omega, HRD.out.chg hcs (fun i hi he => by omega), by omega, (HC.out.trans HCH.out).own hcs (by omega), (HH.out.chg HCH.out (by omega)).chg hcs (by omega), HV4.out.set_ 0 _, HO5.out.chg hcs (fun i h1 h2 h3 => by omega), Lib.hid HOK5.out, by omega, by rw [hss]; exact Nat.le_refl _, .inr hvl⟩
      case measure => simp [intOf]; omega
    · obtain rfl : k = 0 := by omega
      have h8 : T.length = 8 := by rw [← listsOf_length]; exact hok.out.1
      have HT8 := Lib.hid h8
      have HT6 := Lib.hid (show ∀ r ∈ T, r.xs.length = 6 from fun r hr => by
        obtain ⟨j, hj, rfl⟩ := List.getElem_of_mem hr
        have h1 := (hok.out.2 j (by rw [listsOf_length]; exact hj)).1
        simpa [listsOf] using h1)
      clear hch0 hbH hbV hO h8
      go_wp2_with fail
      refine (odd_any g _ n _ hr (by omega) (by omega) (by omega)).mono ?_
      rintro e' w3 ⟨b, rfl, hb0, hc3, hr3⟩
      have HB0 := Lib.hid hb0
      have HC3 := Lib.hid (HC.out.trans hc3)
      have HH3 := Lib.hid (HH.out.chg hc3 (by omega))
      have HV3 := Lib.hid (HV.out.chg hc3 (by omega))
      have HO3 := Lib.hid ((HO.out.chg hc3 (fun i h1 h2 h3 => by omega)).more (Nat.le_refl _) (show E ≤ w3.heap.size by have := hc3.size; omega))
      clear hc3 hb0 v0
      have HEND : ∀ (wq : World) (A : Option Addr) (c : Nat) (X : List (List Int)) (ok : n = 0 → tabOk X), Chg (· = g) w wq → Rdr wq g (N + 300) → TabR (fun i => w.heap.size < i) wq A X → X.length ≤ 8 → (∀ r ∈ X, r.length ≤ 6) → Hid (TbDrawn g (N + 300) (n = 0) w (.returned (.agg #[.slice A X.length c])) (wq.setCell ⟨w.heap.size, 0, none⟩ (.slice A X.length c))) := fun wq A c X ok hc hd ht hl hx => Lib.hid (by
        have hcs : Chg (· = w.heap.size) wq (wq.setCell ⟨w.heap.size, 0, none⟩ (.slice A X.length c)) := (Chg.refl (· = w.heap.size) wq).setCell (p := ⟨w.heap.size, 0, none⟩) (.inl rfl) _
        exact ⟨_, rfl, ⟨A, c, X, rfl, (ht.chg hcs (fun i h1 h2 => by omega)).mono (fun i _ h => Nat.le_of_lt h), hl, hx, ok⟩, hc.own hcs (Nat.le_refl _), hd.chg hcs (fun i hi he => by omega)⟩)
      have hrd0 : TabR (fun i => w.heap.size < i) w3 A (listsOf T) := HO3.out.reads.mono (fun i _ h => by omega)
      have HRD0 := Lib.hid hrd0
      have HL8 := Lib.hid (show (listsOf T).length = 8 by rw [listsOf_length]; exact HT8.out)
      have HX6 := Lib.hid (show ∀ r ∈ listsOf T, r.length ≤ 6 from fun r hr => by
        obtain ⟨q, hq, rfl⟩ := List.mem_map.1 hr
        exact Nat.le_of_eq (HT6.out q hq))
      clear hrd0
      have r3 : w3.cell? ⟨w.heap.size, 0, none⟩ = some (.slice none 0 0) := (HH3.out.cell _).trans rfl
      have rf3 := HH3.out.frozen 0
      have v3 : w3.cell? ⟨V, 0, none⟩ = some (.slice A 8 c) := (HV3.out.cell _).trans rfl
      cases b
      · go_wp2_with fail
        (try simp only [Exit.inBlock, Exit.then])
        refine bodyPost_ret (v := .agg #[.slice A 8 c]) (by simp [results, Try.results124, go_sem, *]) rfl ?_
        have h1 := (HEND w3 A c (listsOf T) (fun _ => HOK.out) HC3.out (hr3.more (by omega)) HRD0.out (by rw [HL8.out]; omega) HX6.out).out
        rw [HL8.out] at h1
        exact h1
      · have hnn : ¬ n = 0 := fun hh => by have := HB0.out hh; cases this
        have HNN := Lib.hid hnn
        clear hnn
        go_wp2_with fail
        refine (pick_any g _ 4 _ hr3 (by omega) (by omega) (by omega)).mono ?_
        rintro e' w4 ⟨kq, rfl, hkq, hc4, hr4⟩
        have HC4 := Lib.hid (HC3.out.trans hc4)
        have HH4 := Lib.hid (HH3.out.chg hc4 (by omega))
        have HV4 := Lib.hid (HV3.out.chg hc4 (by omega))
        have HO4 := Lib.hid ((HO3.out.chg hc4 (fun i h1 h2 h3 => by omega)).more (Nat.le_refl _) (show w3.heap.size ≤ w4.heap.size from hc4.size))
        have r4 : w4.cell? ⟨w.heap.size, 0, none⟩ = some (.slice none 0 0) := (HH4.out.cell _).trans rfl
        have rf4 := HH4.out.frozen 0
        have v4 : w4.cell? ⟨V, 0, none⟩ = some (.slice A 8 c) := (HV4.out.cell _).trans rfl
        clear hc4 r3 rf3 v3
        rcases (show kq = 0 ∨ kq = 1 ∨ kq = 2 ∨ kq = 3 by omega) with rfl | rfl | rfl | rfl
        · go_wp2_with fail
          (try simp only [Exit.inBlock, Exit.then])
          refine bodyPost_ret (v := .agg #[.slice none 0 0]) (by simp [results, Try.results124, go_sem, *]) rfl ?_
          exact (HEND w4 none 0 [] (fun hh => absurd hh HNN.out) HC4.out (hr4.more (by omega)) (fun k hk => by simp at hk) (by simp) (by simp)).out
        · obtain ⟨gh, rest, rfl, hgB, hgE, hbh⟩ := HO4.out.head (by rw [HT8.out]; omega)
          have h0T : 0 < T.length := by rw [HT8.out]; omega
          have hok0 := HO4.out.2.1 T[0] (List.getElem_mem h0T)
          have hl0 : T[0].xs.length = 6 := HT6.out _ (List.getElem_mem h0T)
          have c0 := head_cell hbh h0T
          rw [hl0] at c0
          have fh := hbh.frozen 0
          have hVh : V ≠ gh := fun hh => ty_ints_tab (hbh.sameTy (by rw [← hh]; exact HV4.out))
          have hrd := HO4.out.cutFirst hbh hgB hgE h0T hl0
          have hc6 := hok0.2.2.2
          rw [hl0] at hc6
          have hXl : ((listsOf T).set 0 T[0].xs.tail).length = 8 := by rw [List.length_set, listsOf_length, HT8.out]
          have hXr : ∀ r ∈ (listsOf T).set 0 T[0].xs.tail, r.length ≤ 6 := fun r hr => by
            rcases List.mem_or_eq_of_mem_set hr with h1 | rfl
            · exact HX6.out r h1
            · rw [List.length_tail, hl0]; omega
          obtain ⟨X', hX'⟩ : ∃ X', (listsOf T).set 0 T[0].xs.tail = X' := ⟨_, rfl⟩
          rw [hX'] at hrd hXl hXr
          obtain ⟨g0, hg0'⟩ : ∃ g0, T[0].g = g0 := ⟨_, rfl⟩
          obtain ⟨cc0, hcc0⟩ : ∃ cc0, T[0].c = cc0 := ⟨_, rfl⟩
          rw [hg0', hcc0] at c0 hrd
          rw [hcc0] at hc6
          have hcs0 := (Chg.refl (· = gh) w4).setCell (p := ⟨gh, 0, none⟩) (.inl rfl) (.slice (some ⟨g0, 1, none⟩) 5 (cc0 - 1))
          have v5 := hcs0.cell v4 (by simp only; exact hVh)
          have r5 := hcs0.cell r4 (by simp only; omega)
          have rf5 := (HH4.out.chg hcs0 (by omega)).frozen 0
          have HRD := Lib.hid hrd
          have HC5 := Lib.hid (HC4.out.own hcs0 (by omega))
          have HD5 := Lib.hid (hr4.chg hcs0 (fun i hi he => by omega))
          have HXX := Lib.hid (And.intro hXl hXr)
          have t1 : ¬ cc0 = 1 := by omega
          have t2 : (6 : Int) ≤ (cc0 : Int) := by omega
          have HGB := Lib.hid hgB
          clear hgE hbh h0T hok0 hl0 hrd hXl hXr hX' hg0' hcc0 hcs0
          go_wp2_with fail
          go_region
          go_wp2_with fail
          (try simp only [Exit.inBlock, Exit.then])
          refine bodyPost_ret (v := .agg #[.slice (some ⟨gh, 0, none⟩) 8 c]) (by simp [results, Try.results124, go_sem, *]) rfl ?_
          have h1 := (HEND (w4.setCell ⟨gh, 0, none⟩ (.slice (some ⟨g0, 1, none⟩) 5 (cc0 - 1))) (some ⟨gh, 0, none⟩) c X' (fun hh => absurd hh HNN.out) HC5.out (HD5.out.more (by omega)) (HRD.out.mono (fun i _ h => by omega)) (by have := HXX.out.1; omega) HXX.out.2).out
          rw [HXX.out.1] at h1
          exact h1.drew
        · obtain ⟨gh, rest, rfl, hgB, hgE, hbh⟩ := HO4.out.head (by rw [HT8.out]; omega)
          have h0T : 0 < T.length := by rw [HT8.out]; omega
          have hok0 := HO4.out.2.1 T[0] (List.getElem_mem h0T)
          have hl0 : T[0].xs.length = 6 := HT6.out _ (List.getElem_mem h0T)
          have c0 := head_cell hbh h0T
          rw [hl0] at c0
          have d0 := row_cell hok0.2.2.1 (k := 0) (by omega)
          have hb0 := hok0.2.2.1
          have hb1 := hok0.1
          have hb2 := hok0.2.1
          have hV0 : V ≠ T[0].g := fun hh => ty_int_tab (hok0.2.2.1.sameTy (by rw [← hh]; exact HV4.out))
          have hH0 : gh ≠ T[0].g := fun hh => ty_ne (hok0.2.2.1.sameTy (by rw [← hh]; exact hbh))
          have HOT := Lib.hid (show ∀ (wq : World) (x : Int), Chg (· = g) w4 wq → ∃ T', TabO B w4.heap.size (wq.setCell ⟨T[0].g, 0, none⟩ (.int .i64 x)) (some ⟨gh, 0, none⟩) c T' ∧ T'.length = 8 ∧ ∀ r ∈ T', r.xs.length = 6 from fun wq x hcq => by
            have ho := HO4.out.chg hcq (fun i h1 h2 h3 => by omega)
            refine ⟨T.set 0 ⟨T[0].g, T[0].c, T[0].xs.set 0 x, T[0].rest⟩, ho.setRow h0T ((Chg.refl (· = T[0].g) wq).setCell (p := ⟨T[0].g, 0, none⟩) (.inl rfl) _) (by rw [List.length_set]) (row_store (ho.2.1 T[0] (List.getElem_mem h0T)).2.2.1 (k := 0) (by omega) x), by rw [List.length_set, HT8.out], fun r hr => by
              rcases List.mem_or_eq_of_mem_set hr with h1 | rfl
              · exact HT6.out r h1
              · simp only; rw [List.length_set, hl0]⟩)
          obtain ⟨g0, hg0'⟩ : ∃ g0, T[0].g = g0 := ⟨_, rfl⟩
          obtain ⟨xs0, hxs0⟩ : ∃ xs0, T[0].xs = xs0 := ⟨_, rfl⟩
          obtain ⟨rst0, hrst0⟩ : ∃ rst0, T[0].rest = rst0 := ⟨_, rfl⟩
          obtain ⟨cc0, hcc0⟩ : ∃ cc0, T[0].c = cc0 := ⟨_, rfl⟩
          simp only [hxs0] at d0
          rw [hg0', hcc0] at c0
          rw [hg0'] at d0 hb1 hb2 hV0 hH0
          rw [hg0', hxs0, hrst0] at hb0
          rw [hg0'] at HOT
          rw [hxs0] at hl0
          have hg4 := hr4.lt
          go_wp2_with fail
          refine wp_region_rg (WInv := fun cc m w5 => Rdr w5 g (M + 1 + 1 + cc) ∧ cc ≤ 11 ∧ StoI g g0 w4 (fun w => ∃ T', TabO B w4.heap.size w (some ⟨gh, 0, none⟩) c T' ∧ T'.length = 8 ∧ ∀ r ∈ T', r.xs.length = 6) 10 m w5) (R := Chg (fun k => k = g ∨ k = g0)) (Post := l2Post g V gh g0 w4.heap.size c cc0) (by kernel_rfl) (by kernel_rfl) ?_ (fun i v w1 w2 => l2Post_stab hg4 hb2) ⟨hr4.drew, by omega, (Chg.refl _ _).drew, fun _ => (Chg.refl _ _).drew, fun hh => absurd rfl hh⟩ ?_ ?_
          · rintro c c' m w ⟨h1, h2, h5⟩ h3 h4
            exact ⟨h1.more (by omega), h4, h5⟩
          · refine ⟨?_, ?_, ?_, ?_, ?_, ?_, ?_, ?_, ?_, ?_, ?_, trivial⟩
            · rintro kc m a w5 hkc ⟨hrd, hcc, hst⟩ hm hn
              have e1 : a.tmps[5]?.getD undef = .pointer (some ⟨V, 0, none⟩) := hn.1
              exact rg_val (v := .pointer (some ⟨V, 0, none⟩)) (by simp [execOp, go_sem, e1]) rfl ⟨hrd.more (by omega), hkc, hst.keep (by decide) (Chg.refl _ _) (fun x => x)⟩ (Chg.refl _ _) rfl
            · rintro kc m a w5 hkc ⟨hrd, hcc, hst⟩ hm hn
              obtain ⟨⟨_, e1, _, rfl⟩, -⟩ := hn
              have x0 := hst.1.cell v4 (by simp only; omega)
              exact rg_val (v := .slice (some ⟨gh, 0, none⟩) 8 c) (by simp [execOp, go_sem, e1, x0]) rfl ⟨hrd.more (by omega), hkc, hst.keep (by decide) (Chg.refl _ _) (fun x => x)⟩ (Chg.refl _ _) rfl
            · rintro kc m a w5 hkc ⟨hrd, hcc, hst⟩ hm hn
              obtain ⟨⟨_, e1, _, rfl⟩, -⟩ := hn
              exact rg_val (v := .pointer (some ⟨gh, 0, none⟩)) (by simp [execOp, go_sem, e1]) rfl ⟨hrd.more (by omega), hkc, hst.keep (by decide) (Chg.refl _ _) (fun x => x)⟩ (Chg.refl _ _) rfl
            · rintro kc m a w5 hkc ⟨hrd, hcc, hst⟩ hm hn
              obtain ⟨⟨_, e1, _, rfl⟩, -⟩ := hn
              have x0 := hst.1.cell c0 (by simp only; omega)
              exact rg_val (v := .slice (some ⟨g0, 0, none⟩) 6 cc0) (by simp [execOp, go_sem, e1, x0]) rfl ⟨hrd.more (by omega), hkc, hst.keep (by decide) (Chg.refl _ _) (fun x => x)⟩ (Chg.refl _ _) rfl
            · rintro kc m a w5 hkc ⟨hrd, hcc, hst⟩ hm hn
              have hca : Chg (· = g) w5 (w5.alloc (.cells #[.int .i64 (-2), .int .i64 48] 3)) := (Chg.refl _ _).alloc _
              exact rg_val (v := .slice (some ⟨w5.heap.size, 0, none⟩) 2 2) (w' := w5.alloc (.cells #[.int .i64 (-2), .int .i64 48] 3)) (by simp [execOp, go_sem]) rfl ⟨(hrd.alloc _).more (by omega), hkc, hst.keep (by decide) hca (fun ⟨T', hx, hy⟩ => ⟨T', hx.chg hca (fun i h1 h2 h3 => by omega), hy⟩)⟩ (hca.mono (fun _ _ x => .inl x)) ⟨_, rfl, hst.1.size, Blk.new _ _ _⟩
            · rintro kc m a w5 hkc ⟨hrd, hcc, hst⟩ hm hn
              have e1 : a.tmps[0]?.getD undef = .pointer (some ⟨g, 0, none⟩) := hn.1
              exact rg_val (v := .pointer (some ⟨g, 0, none⟩)) (by simp [execOp, go_sem, e1]) rfl ⟨hrd.more (by omega), hkc, hst.keep (by decide) (Chg.refl _ _) (fun x => x)⟩ (Chg.refl _ _) rfl
            · rintro kc m a w5 hkc ⟨hrd, hcc, hst⟩ hm hn
              obtain ⟨⟨_, e1, _, rfl⟩, -⟩ := hn
              refine rg_call (f := 63) (args := #[.pointer (some ⟨g, 0, none⟩), .int .i64 2]) (by simp [go_sem, e1]) rfl ?_
              refine (pick_any g _ 2 _ hrd (by omega) (by omega) (by omega)).mono ?_
              rintro e' w6 ⟨kk, rfl, hkk, hc6, hr6⟩
              exact ⟨_, rfl, ⟨hr6, hkc, hst.keep (by decide) hc6 (fun ⟨T', hx, hy⟩ => ⟨T', hx.chg hc6 (fun i h1 h2 h3 => by omega), hy⟩)⟩, hc6.mono (fun _ _ x => .inl x), kk, rfl, by omega⟩
            · rintro kc m a w5 hkc ⟨hrd, hcc, hst⟩ hm hn
              obtain ⟨⟨_, e1, _, b, rfl, hb, hbl⟩, ⟨_, e2, _, k, rfl, hk2⟩, -⟩ := hn
              have hk3 : (k : Int) < 2 := by omega
              exact rg_val (v := .pointer (some ⟨b, k, none⟩)) (by simp [execOp, go_sem, e1, e2]; exact fun hh => absurd hh (by omega)) rfl ⟨hrd.more (by omega), hkc, hst.keep (by decide) (Chg.refl _ _) (fun x => x)⟩ (Chg.refl _ _) ⟨b, k, rfl, hb, hk2, hbl⟩
            · rintro kc m a w5 hkc ⟨hrd, hcc, hst⟩ hm hn
              obtain ⟨⟨_, e1, _, b, k, rfl, hb, hk2, hbl⟩, -⟩ := hn
              obtain ⟨x, hx⟩ := lit_cell hbl k (by simpa using hk2) (fun v hv => by simp at hv; rcases hv with rfl | rfl <;> exact ⟨_, rfl⟩)
              exact rg_val (v := .int .i64 x) (by simp [execOp, go_sem, e1, hx]) rfl ⟨hrd.more (by omega), hkc, hst.keep (by decide) (Chg.refl _ _) (fun x => x)⟩ (Chg.refl _ _) ⟨x, rfl⟩
            · rintro kc m a w5 hkc ⟨hrd, hcc, hst⟩ hm hn
              obtain ⟨⟨_, e1, _, rfl⟩, -⟩ := hn
              exact rg_val (v := .pointer (some ⟨g0, 0, none⟩)) (by simp [execOp, go_sem, e1]) rfl ⟨hrd.more (by omega), hkc, hst.keep (by decide) (Chg.refl _ _) (fun x => x)⟩ (Chg.refl _ _) rfl
            · rintro kc m a w5 hkc ⟨hrd, hcc, hst⟩ hm hn
              obtain ⟨⟨_, e1, _, rfl⟩, ⟨_, e2, _, x, rfl⟩, -⟩ := hn
              have hch := hst.2.1 hm
              have y0 := hch.cell d0 (by simp only; omega)
              have yb := hb0.chg hch (by omega)
              have yf := yb.frozen 0
              have hcs : Chg (· = g0) w5 (w5.setCell ⟨g0, 0, none⟩ (.int .i64 x)) := (Chg.refl (· = g0) w5).setCell (p := ⟨g0, 0, none⟩) (.inl rfl) _
              exact rg_skip (w' := w5.setCell ⟨g0, 0, none⟩ (.int .i64 x)) (by simp [execOp, go_sem, e1, e2, y0, yf]) rfl ⟨(hrd.chg hcs (fun i hi he => by omega)).more (by omega), hkc, hst.store hcs (HOT.out w5 x hch)⟩ (hcs.mono (fun _ _ x => .inr x)) trivial
          · rintro m w5 ⟨hrd0, hc11, hst⟩
            have hrd := hrd0.more (show _ ≤ M + 13 by omega)
            simp only [AllVals]
            rintro v0' m0 p0 v1' m1 p1 v2' m2 p2 v3' m3 p3 v4' m4 p4 v5' m5 p5 v6' m6 p6 v7' m7 p7 v8' m8 p8 v9' m9 p9 v10' m10 p10
            obtain ⟨T', hO', hl', hx'⟩ := hst.2.2 (by rw [m10]; simp)
            have v5 := hst.1.cell v4 (by simp only; omega)
            have h5 := HH4.out.chg hst.1 (by omega)
            have r5 : w5.cell? ⟨w.heap.size, 0, none⟩ = some (.slice none 0 0) := (h5.cell _).trans rfl
            have rf5 := h5.frozen 0
            have hC5 : Chg (· = g) w w5 := HC4.out.trans' hst.1 (fun i hi => by rcases hi with h1 | h1; exact .inl h1; exact .inr (by omega))
            have HC5 := Lib.hid hC5
            have HD5 := Lib.hid hrd
            have HO' := Lib.hid hO'
            have HX' := Lib.hid (And.intro hl' hx')
            clear p0 p1 p2 p3 p4 p5 p6 p7 p8 p9 p10 hst hrd hrd0 hc11 hO' hl' hx' h5 hC5 hok0 hb0 hbh c0 d0 r4 rf4 v4
            simp only [Act.put, List.setIfInBounds_toArray, List.set_cons_succ, List.set_cons_zero]
            go_wp2_with fail
            (try simp only [Exit.inBlock, Exit.then])
            refine bodyPost_ret (v := .agg #[.slice (some ⟨gh, 0, none⟩) 8 c]) (by simp [results, Try.results124, go_sem, *]) rfl ?_
            have hl8 : (listsOf T').length = 8 := by rw [listsOf_length]; exact HX'.out.1
            have h1 := (HEND _ (some ⟨gh, 0, none⟩) c (listsOf T') (fun hh => absurd hh HNN.out) HC5.out (HD5.out.more (by omega)) (HO'.out.reads.mono (fun i _ h => by omega)) (by omega) (fun r hr => by
              obtain ⟨q, hq, rfl⟩ := List.mem_map.1 hr
              exact Nat.le_of_eq (HX'.out.2 q hq))).out
            rw [hl8] at h1
            exact h1
        · obtain ⟨gh, rest, rfl, hgB, hgE, hbh⟩ := HO4.out.head (by rw [HT8.out]; omega)
          have h0T : 0 < T.length := by rw [HT8.out]; omega
          have hok0 := HO4.out.2.1 T[0] (List.getElem_mem h0T)
          have hl0 : T[0].xs.length = 6 := HT6.out _ (List.getElem_mem h0T)
          have c0 := head_cell hbh h0T
          rw [hl0] at c0
          have d0 := row_cell hok0.2.2.1 (k := 0) (by omega)
          have f0 := hok0.2.2.1.frozen 0
          have hst0 := row_store hok0.2.2.1 (k := 0) (by omega) 5
          have hcs0 := (Chg.refl (· = T[0].g) w4).setCell (p := ⟨T[0].g, 0, none⟩) (.inl rfl) (.int .i64 5)
          have hN1 := HO4.out.setRow h0T hcs0 (by rw [List.length_set]) hst0
          obtain ⟨T1, hT1⟩ : ∃ T1, T.set 0 ⟨T[0].g, T[0].c, T[0].xs.set 0 5, T[0].rest⟩ = T1 := ⟨_, rfl⟩
          have hT1l : T1.length = 8 := by rw [← hT1, List.length_set, HT8.out]
          have hT16 : ∀ r ∈ T1, r.xs.length = 6 := fun r hr => by
            rw [← hT1] at hr
            rcases List.mem_or_eq_of_mem_set hr with h1 | rfl
            · exact HT6.out r h1
            · simp only; rw [List.length_set, hl0]
          rw [hT1] at hN1
          have hb1 := hok0.1
          have hb2 := hok0.2.1
          have hV0 : V ≠ T[0].g := fun hh => ty_int_tab (hok0.2.2.1.sameTy (by rw [← hh]; exact HV4.out))
          obtain ⟨g0, hg0'⟩ : ∃ g0, T[0].g = g0 := ⟨_, rfl⟩
          obtain ⟨x0, hx0⟩ : ∃ x0, T[0].xs[0]'(by omega) = x0 := ⟨_, rfl⟩
          obtain ⟨cc0, hcc0⟩ : ∃ cc0, T[0].c = cc0 := ⟨_, rfl⟩
          rw [hg0', hcc0] at c0
          rw [hg0', hx0] at d0
          rw [hg0'] at f0 hcs0 hN1 hb1 hb2 hV0
          have hV5 := HV4.out.chg hcs0 hV0
          obtain ⟨gh1, rest1, hA1, -, -, hbh1⟩ := hN1.head (by omega)
          injection hA1 with hA1
          injection hA1 with hA1
          subst hA1
          have h1T : 1 < T1.length := by omega
          have hok1 := hN1.2.1 T1[1] (List.getElem_mem h1T)
          have hl1 : T1[1].xs.length = 6 := hT16 _ (List.getElem_mem h1T)
          have c1' := head_cell hbh1 h1T
          rw [hl1] at c1'
          have d1 := row_cell hok1.2.2.1 (k := 1) (by omega)
          have f1 := hok1.2.2.1.frozen 1
          have hst1 := row_store hok1.2.2.1 (k := 1) (by omega) 5
          have hcs1 := (Chg.refl (· = T1[1].g) (w4.setCell ⟨g0, 0, none⟩ (.int .i64 5))).setCell (p := ⟨T1[1].g, 1, none⟩) (.inl rfl) (.int .i64 5)
          have hN2 := hN1.setRow h1T hcs1 (by rw [List.length_set]) hst1
          obtain ⟨T2, hT2⟩ : ∃ T2, T1.set 1 ⟨T1[1].g, T1[1].c, T1[1].xs.set 1 5, T1[1].rest⟩ = T2 := ⟨_, rfl⟩
          have hT2l : T2.length = 8 := by rw [← hT2, List.length_set, hT1l]
          have hT26 : ∀ r ∈ T2, r.xs.length = 6 := fun r hr => by
            rw [← hT2] at hr
            rcases List.mem_or_eq_of_mem_set hr with h1 | rfl
            · exact hT16 r h1
            · simp only; rw [List.length_set, hl1]
          rw [hT2] at hN2
          have hb3 := hok1.1
          have hb4 := hok1.2.1
          have hV1 : V ≠ T1[1].g := fun hh => ty_int_tab (hok1.2.2.1.sameTy (by rw [← hh]; exact hV5))
          obtain ⟨g1, hg1'⟩ : ∃ g1, T1[1].g = g1 := ⟨_, rfl⟩
          obtain ⟨x1, hx1⟩ : ∃ x1, T1[1].xs[1]'(by omega) = x1 := ⟨_, rfl⟩
          obtain ⟨cc1, hcc1⟩ : ∃ cc1, T1[1].c = cc1 := ⟨_, rfl⟩
          rw [hg1', hcc1] at c1'
          rw [hg1', hx1] at d1
          rw [hg1'] at f1 hcs1 hN2 hb3 hb4 hV1
          have v5 := hcs0.cell v4 (by simp only; exact hV0)
          have v6 := hcs1.cell v5 (by simp only; exact hV1)
          have r6 := hcs1.cell (hcs0.cell r4 (by simp only; omega)) (by simp only; omega)
          have rf6 := ((HH4.out.chg hcs0 (by omega)).chg hcs1 (by omega)).frozen 0
          have HN2 := Lib.hid hN2
          have HC6 := Lib.hid ((HC4.out.own hcs0 (by omega)).own hcs1 (by omega))
          have HD6 := Lib.hid ((hr4.chg hcs0 (fun i hi he => by omega)).chg hcs1 (fun i hi he => by omega))
          have HT2 := Lib.hid (And.intro hT2l hT26)
          clear hgB hgE hbh h0T hok0 hl0 hst0 hcs0 hN1 hT1 hT1l hT16 hg0' hx0 hcc0 hb1 hb2 hbh1 h1T hok1 hl1 hst1 hcs1 hN2 hT2 hT2l hT26 hg1' hx1 hcc1 hb3 hb4 rf4 r4 hV0 hV1 hV5
          go_wp2_with fail
          (try simp only [Exit.inBlock, Exit.then])
          refine bodyPost_ret (v := .agg #[.slice (some ⟨gh, 0, none⟩) 8 c]) (by simp [results, Try.results124, go_sem, *]) rfl ?_
          have hl8 : (listsOf T2).length = 8 := by rw [listsOf_length]; exact HT2.out.1
          have h1 := (HEND _ (some ⟨gh, 0, none⟩) c (listsOf T2) (fun hh => absurd hh HNN.out) HC6.out (HD6.out.more (by omega)) (HN2.out.reads.mono (fun i _ h => by omega)) (by omega) (fun r hr => by
            obtain ⟨q, hq, rfl⟩ := List.mem_map.1 hr
            exact Nat.le_of_eq (HT2.out.2 q hq))).out
          rw [hl8] at h1
          exact h1
end Go.Proofs.Ytpiojofmflfkkaa
