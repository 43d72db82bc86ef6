/- DrawEraseAt; the law FnEraseAt: the walk. -/
import Derived.Test.YtenbbkmbnpdfaaaYd
import Derived.Test.YtenbbkmbnpdfaaaVw
import Derived.Test.YtenbbkmbnpdfaaaVq
namespace Go.Proofs.Ytenbbkmbnpdfaaa
open Go.RowKit
def EaDrawn (w : World) (e : Ending) (w' : World) : Prop :=
  ∃ A c D n, e = .returned (.tuple #[.slice A (D : List Bk).length c, .int .i64 n]) ∧ DevR (fun i => w.heap.size ≤ i) w' A D ∧ D.length ≤ 13 ∧ (∀ b ∈ D, b.pages.length ≤ 4) ∧ Chg NoB w w'
set_option maxRecDepth 100000 in
set_option maxHeartbeats 1000000 in
theorem DrawEraseAt_any (A0 : Option Addr) (c0 : Nat) (bs : List Nat) (w : World) (h : Rd (fun i => i < w.heap.size) w A0 (bs.map fun (b : Nat) => Value.int .u8 (b : Int))) (hx : ∀ b ∈ bs, b < 256) (hc : bs.length ≤ c0) :
    Calls Try.prog 38 #[.slice A0 bs.length c0] w (EaDrawn w) := by
  go_enter Try.func38, Try.ntmps38
  go_wp2_with fail
  refine (l20Open_any A0 c0 bs _ h hx hc).mono ?_
  rintro e w1 ⟨g, rfl, hg, hc1, hr1⟩
  have HG := Lib.hid hg
  have HC1 := Lib.hid hc1
  clear hg hc1 h hx hc
  go_wp2_with fail
  refine (l20Device_any g 0 9 _ hr1 (by omega) (by omega) (by omega)).mono ?_
  rintro e w2 ⟨A, c, D, hh, rfl, hrd, hlc, h13, h4, hc2, hr2⟩
  have hca := (Chg.refl NoB w2).alloc (.cells #[.int .i64 hh.hot, .int .i64 hh.warm, .int .i64 hh.cold] 38)
  have HC := Lib.hid ((HC1.out.own hc2 (by rw [HG.out]; exact Nat.le_refl _)).trans hca)
  have hs1 := hr1.lt
  have hrl := hrd.new hca
  have HS := Lib.hid HC1.out.size
  have HG1 := Lib.hid (show g < w1.heap.size from hs1)
  have hr3 := hr2.alloc (.cells #[.int .i64 hh.hot, .int .i64 hh.warm, .int .i64 hh.cold] 38)
  have hL : (D.length : Int) ≤ 13 := by omega
  clear hca hc2 hrd hr1 hr2
  go_wp2_with fail
  refine (pick_any g _ ((D.length : Int) + 1) _ hr3 (by omega) (by omega) (by omega)).mono ?_
  rintro e w3 ⟨k, rfl, hk, hc3, hr4⟩
  have HC3 := Lib.hid (HC.out.own hc3 (by rw [HG.out]; exact Nat.le_refl _))
  have HR3 := Lib.hid (hrl.chg hc3 (fun i hi he => by have h9 : i = g := he; have := HG1.out; omega))
  clear hc3 hrl hr3
  go_wp2_with fail
  refine (pick_any g _ 14 _ hr4 (by omega) (by omega) (by omega)).mono ?_
  rintro e w4 ⟨m, rfl, hm, hc4, hr5⟩
  have HC4 := Lib.hid (HC3.out.own hc4 (by rw [HG.out]; exact Nat.le_refl _))
  have HR4 := Lib.hid (HR3.out.chg hc4 (fun i hi he => by have h9 : i = g := he; have := HG1.out; omega))
  obtain ⟨q, hq, hq2⟩ : ∃ q : Nat, (m : Int) / 13 = (q : Int) ∧ q < 2 := ⟨m / 13, by omega, by omega⟩
  have hq' : (m : Int).tdiv 13 = (q : Int) := by rw [Int.tdiv_eq_ediv_of_nonneg (by omega)]; exact hq
  have hm0 : (0 : Int) ≤ (m : Int) := Int.natCast_nonneg _
  have hn1 : (-9223372036854775808 : Int) ≤ (k : Int) - (q : Int) := by omega
  have hn2 : (k : Int) - (q : Int) ≤ 9223372036854775807 := by omega
  have H4 := Lib.hid h4
  clear hc4 hr4 hr5 h4
  go_wp2
  refine bodyPost_ret (v := .tuple #[.slice A D.length c, .int .i64 ((k : Int) - (q : Int))]) (by simp [results, Try.results38, go_sem, *]) rfl ?_
  exact ⟨A, c, D, _, rfl, HR4.out.mono (fun i _ hi => by have := HS.out; omega), h13, H4.out, HC4.out⟩
theorem sameDevice_len (A B : Option Addr) (c d n m : Nat) (w : World) (h : n ≠ m) :
    Calls Try.prog 17 #[.slice A n c, .slice B m d] w fun e w' => e = .returned (.bool false) ∧ Chg NoB w w' := by
  have hne : ((n : Int) != (m : Int)) = true := by rw [bne_iff_ne]; omega
  go_enter Try.func17, Try.ntmps17
  go_wp2
  go_ret
  exact ⟨rfl, Chg.refl _ _⟩
theorem sumTo_set {D : List Bk} {k : Nat} (hk : k < D.length) (b : Bk) (n : Nat) : sumTo' (D.set k b) n = sumTo' D n + if k < n then b.wear - D[k].wear else 0 := by
  induction n with
  | zero => simp [sumTo']
  | succ n ih =>
    unfold sumTo'
    rw [ih]
    by_cases hkn : k = n
    · subst hkn
      have e1 : wearAt (D.set k b) k = b.wear := by unfold wearAt; rw [getD_get _ _ (by rw [List.length_set]; exact hk), List.getElem_set_self]
      have e2 : wearAt D k = D[k].wear := by unfold wearAt; rw [getD_get _ _ hk]
      rw [e1, e2, if_neg (by omega), if_pos (by omega)]
      omega
    · have e1 : wearAt (D.set k b) n = wearAt D n := by unfold wearAt; rw [List.getD_eq_getElem?_getD, List.getElem?_set_ne hkn, ← List.getD_eq_getElem?_getD]
      rw [e1]
      by_cases h1 : k < n
      · rw [if_pos h1, if_pos (by omega)]; omega
      · rw [if_neg h1, if_neg (by omega)]; omega
theorem freeTo_set {D : List Bk} {k : Nat} (hk : k < D.length) (x : Int) (n : Nat) : freeTo D n ≤ freeTo (D.set k ⟨x, List.replicate 4 zPg⟩) n := by
  induction n with
  | zero => exact Nat.le_refl _
  | succ n ih =>
    unfold freeTo
    by_cases hkn : k = n
    · subst hkn
      have e1 : (D.set k ⟨x, List.replicate 4 zPg⟩).getD k zBk = ⟨x, List.replicate 4 zPg⟩ := by rw [getD_get _ _ (by rw [List.length_set]; exact hk), List.getElem_set_self]
      rw [e1]
      have : written (List.replicate 4 zPg) = 0 := by rfl
      simp only [this]
      omega
    · have e1 : (D.set k ⟨x, List.replicate 4 zPg⟩).getD n zBk = D.getD n zBk := by rw [List.getD_eq_getElem?_getD, List.getElem?_set_ne hkn, ← List.getD_eq_getElem?_getD]
      rw [e1]
      omega
/-- What is known where EraseAt says yes. -/
theorem eraseAt_good {D : List Bk} {n : Int} (h : (eraseAt D n).2 = true) : ∃ k : Nat, n = (k : Int) ∧ k < D.length ∧ DvOk D ∧ (eraseAt D n).1 = D.set k ⟨wearAt D k + 1, List.replicate 4 zPg⟩ ∧ DvOk (eraseAt D n).1 ∧ wearTotal (eraseAt D n).1 = wearTotal D + 1 ∧ freePages D ≤ freePages (eraseAt D n).1 := by
  by_cases hv : DvOk D ∧ (0 ≤ n ∧ n < (D.length : Int))
  case neg => rw [eraseAt_no hv] at h; cases h
  obtain ⟨k, rfl⟩ := Int.eq_ofNat_of_zero_le hv.2.1
  have hk : k < D.length := by omega
  have hb := hv.1.2 k hk
  rw [eraseAt_yes hv.1 hk] at h ⊢
  by_cases h100 : D[k].wear = 100
  · rw [eraseBlock_old hb h100] at h; cases h
  rw [eraseBlock_new hb h100]
  have hw : wearAt D k = D[k].wear := by unfold wearAt; rw [getD_get _ _ hk]
  have hok : DvOk (D.set k ⟨D[k].wear + 1, List.replicate 4 zPg⟩) := hv.1.set ⟨by have := hb.1; show 0 ≤ D[k].wear + 1 ∧ D[k].wear + 1 ≤ 100; omega, by simp, fun j hj => ⟨by simp only [List.getElem_replicate]; exact PgOk.zero, fun _ hf => by simp only [List.getElem_replicate] at hf; cases hf⟩⟩
  refine ⟨k, rfl, hk, hv.1, by rw [hw], hok, ?_, ?_⟩
  · unfold wearTotal
    rw [if_pos hok, if_pos hv.1, List.length_set, sumTo_set hk, if_pos hk]
    simp only
    omega
  · unfold freePages
    rw [if_pos hok, if_pos hv.1, List.length_set]
    exact Int.ofNat_le.2 (freeTo_set hk (D[k].wear + 1) D.length)
/-- What is known where it says no. -/
theorem eraseAt_bad {D : List Bk} {n : Int} (h : (eraseAt D n).2 = false) : (eraseAt D n).1 = D ∨ (eraseAt D n).1 = [] := by
  by_cases hv : DvOk D ∧ (0 ≤ n ∧ n < (D.length : Int))
  case neg => rw [eraseAt_no hv]; exact .inr rfl
  obtain ⟨k, rfl⟩ := Int.eq_ofNat_of_zero_le hv.2.1
  have hk : k < D.length := by omega
  rw [eraseAt_yes hv.1 hk] at h ⊢
  by_cases h100 : D[k].wear = 100
  · rw [eraseBlock_old (hv.1.2 k hk) h100]
    exact .inl (List.set_getElem_self hk)
  · rw [eraseBlock_new (hv.1.2 k hk) h100] at h; cases h
theorem eraseAt_small {D : List Bk} {n : Int} (h : Small D) : Small (eraseAt D n).1 := by
  cases hb : (eraseAt D n).2 with
  | true => obtain ⟨_, _, _, _, _, h1, _⟩ := eraseAt_good hb; exact h1.small
  | false => rcases eraseAt_bad hb with h1 | h1 <;> rw [h1]; exact h; exact ⟨by simp, fun k hk => absurd hk (by simp)⟩
set_option maxRecDepth 100000 in
set_option maxHeartbeats 4000000 in
theorem FnEraseAt_any (A : Option Addr) (c : Nat) (bs : List Nat) (w : World) (h : Rd (fun i => i < w.heap.size) w A (bs.map fun (b : Nat) => Value.int .u8 (b : Int))) (hx : ∀ b ∈ bs, b < 256) (hc : bs.length ≤ c) (_hm : c ≤ maxLen) :
    Calls Try.prog 11 #[.slice A bs.length c] w fun e w' => e = .returned (.bool true) ∧ Chg NoB w w' := by
  by_cases hl : 1048576 < bs.length
  · go_enter Try.func11, Try.ntmps11
    go_wp2
    go_ret
    exact ⟨rfl, Chg.refl _ _⟩
  have hl' : bs.length ≤ 1048576 := by omega
  go_enter Try.func11, Try.ntmps11
  go_wp2_with fail
  refine (DrawEraseAt_any A c bs w h hx hc).mono ?_
  rintro e w1 ⟨A1, c1, D, n, rfl, hrd, h13, h4, hc1⟩
  have HR1 := Lib.hid hrd
  have HC1 := Lib.hid hc1
  have HSM := Lib.hid (small13 h13 h4)
  clear hrd hc1 h hx hc h4
  go_wp2_with fail
  refine (iEraseAt_any _ A1 c1 D n _ HR1.out HSM.out).mono ?_
  rintro e w2 ⟨A2, c2, T2, rfl, hT2, hO2, hc2⟩
  have hr2 := hO2.reads
  rw [hT2] at hr2
  have HR2 := Lib.hid hr2
  have HC2 := Lib.hid (HC1.out.trans hc2)
  have HR12 := Lib.hid (HR1.out.new hc2)
  clear hr2 hO2 hT2 hc2
  go_wp2_with fail
  refine (sEraseAt_any _ A1 c1 D n _ HR12.out HSM.out).mono ?_
  rintro e w3 ⟨A3, c3, T3, rfl, hT3, hO3, hc3⟩
  have hr3 := hO3.reads
  rw [hT3] at hr3
  have HR3 := Lib.hid hr3
  have HC3 := Lib.hid (HC2.out.trans hc3)
  have HR13 := Lib.hid (HR12.out.new hc3)
  have HR23 := Lib.hid (HR2.out.new hc3)
  have HSE := Lib.hid (eraseAt_small (n := n) HSM.out)
  clear hr3 hO3 hT3 hc3 HR1 HR2 HR12
  have HGD := Lib.hid (fun hb => eraseAt_good (D := D) (n := n) hb)
  have HBD := Lib.hid (fun hb => eraseAt_bad (D := D) (n := n) hb)
  obtain ⟨E, hE⟩ : ∃ E, (eraseAt D n).1 = E := ⟨_, rfl⟩
  obtain ⟨ok, hok⟩ : ∃ ok, (eraseAt D n).2 = ok := ⟨_, rfl⟩
  rw [hE] at HR3 HR23 HSE HGD HBD ⊢
  rw [hok] at HGD HBD ⊢
  clear hE hok
  go_wp2_with fail
  refine (sameDevice_t _ _ A2 A3 c2 c3 E _ HR23.out HR3.out HSE.out).mono ?_
  rintro e w4 ⟨rfl, hc4⟩
  have HC4 := Lib.hid (HC3.out.trans hc4)
  have HR14 := Lib.hid (HR13.out.new hc4)
  have HR24 := Lib.hid (HR23.out.new hc4)
  have hokk : (ok != ok) = false := by simp
  clear hc4 HR3 HR13 HR23
  cases ok
  case false =>
    by_cases hED : E.length = D.length
    · have hEE : E = D := by
        rcases HBD.out rfl with h1 | h1
        · exact h1
        · rw [h1] at hED; rw [h1, List.eq_nil_of_length_eq_zero (l := D) (by rw [← hED]; rfl)]
      subst hEE
      go_wp2_with fail
      refine (sameDevice_t _ _ A2 A1 c2 c1 E _ HR24.out HR14.out HSE.out).mono ?_
      rintro e w5 ⟨rfl, hc5⟩
      have HC5 := Lib.hid (HC4.out.trans hc5)
      clear hc5
      go_wp2_with fail
      refine (alive_any _).mono ?_
      rintro e w' ⟨rfl, rfl⟩
      go_wp2
      go_ret
      exact ⟨rfl, HC5.out⟩
    · have hEE : E = [] := by
        rcases HBD.out rfl with h1 | h1
        · rw [h1] at hED; exact absurd rfl hED
        · exact h1
      subst hEE
      simp only [List.length_nil]
      go_wp2_with fail
      refine (sameDevice_len A2 A1 c2 c1 0 D.length _ hED).mono ?_
      rintro e w5 ⟨rfl, hc5⟩
      have HC5 := Lib.hid (HC4.out.trans hc5)
      clear hc5
      go_wp2_with fail
      refine (alive_any _).mono ?_
      rintro e w' ⟨rfl, rfl⟩
      go_wp2
      go_ret
      exact ⟨rfl, HC5.out⟩
  obtain ⟨k, rfl, hk, hdv, hEs, hdv2, hwt, hfp⟩ := HGD.out rfl
  have HDV := Lib.hid hdv
  have HDV2 := Lib.hid hdv2
  have HWT := Lib.hid hwt
  have HFP := Lib.hid hfp
  have HES := Lib.hid hEs
  have hlE : E.length = D.length := by rw [hEs, List.length_set]
  have HLE := Lib.hid hlE
  clear hdv hdv2 hwt hfp hEs HGD HBD hlE
  go_wp2_with fail
  go_loopw [9] (fun i wr => ∃ j : Nat, j ≤ D.length ∧ i = .int .i64 j ∧ Chg NoB w4 wr) (fun i _ => D.length - (intOf i).toNat)
  case atStart => exact ⟨0, Nat.zero_le _, rfl, Chg.refl _ _⟩
  case round =>
    obtain ⟨j, hj, rfl, hch⟩ := hrel
    have HCH := Lib.hid hch
    by_cases hlt : j < D.length
    case neg =>
      obtain rfl : j = D.length := by omega
      have HV := Lib.hid (iDeviceValid_t _ A2 c2 E _ (HR24.out.new hch) HDV2.out)
      clear hch
      go_wp2_with fail
      refine HV.out.mono ?_
      rintro e w5 ⟨rfl, hc5⟩
      have HC5 := Lib.hid (HCH.out.trans hc5)
      clear hc5 HV
      go_wp2_with fail
      refine (iWearTotal_any _ A2 c2 E _ (HR24.out.new HC5.out)).mono ?_
      rintro e w6 ⟨rfl, hc6⟩
      have HC6 := Lib.hid (HC5.out.trans hc6)
      rw [HWT.out]
      clear hc6
      go_wp2_with fail
      refine (iWearTotal_any _ A1 c1 D _ (HR14.out.new HC6.out)).mono ?_
      rintro e w7 ⟨rfl, hc7⟩
      have HC7 := Lib.hid (HC6.out.trans hc7)
      obtain ⟨z, hz⟩ : ∃ z, wearTotal D = z := ⟨_, rfl⟩
      have hzr : 0 ≤ z ∧ z ≤ 1300 := by
        rw [← hz]; unfold wearTotal; rw [if_pos HDV.out]
        have := sumTo_range HDV.out D.length
        omega
      rw [hz]
      have hw1 : IntKind.i64.wrap (z + 1) = z + 1 := IntWalk.i64_in _ ⟨by omega, by omega⟩
      have hzz : (z + 1 == z + 1) = true := by simp
      obtain ⟨hz0, hz1⟩ := hzr
      clear hc7 hz
      go_wp2_with fail
      refine (iFreePages_any _ A2 c2 E _ (HR24.out.new HC7.out)).mono ?_
      rintro e w8 ⟨rfl, hc8⟩
      have HC8 := Lib.hid (HC7.out.trans hc8)
      clear hc8
      go_wp2_with fail
      refine (iFreePages_any _ A1 c1 D _ (HR14.out.new HC8.out)).mono ?_
      rintro e w9 ⟨rfl, hc9⟩
      have HC9 := Lib.hid (HC8.out.trans hc9)
      have hge := HFP.out
      clear hc9
      go_wp2
      go_ret
      exact ⟨rfl, HC4.out.trans HC9.out⟩
    have hjE : j < E.length := by rw [HLE.out]; exact hlt
    obtain ⟨b1, o1, A1', c1', rfl, -, d0, d1, hr1, -⟩ := (HR14.out.new hch) j hlt
    obtain ⟨b2, o2, A2', c2', rfl, -, z0, z1, hr2, -⟩ := (HR24.out.new hch) j hjE
    have hi0 : (0 : Int) ≤ (j : Int) := Int.natCast_nonneg _
    have hi1 : (j : Int) < (D.length : Int) := by omega
    have HR1J := Lib.hid hr1
    have HR2J := Lib.hid hr2
    have HPL := Lib.hid (HSM.out.2 j hlt)
    have hle := HLE.out
    rw [hle]
    by_cases hjk : j = k
    case pos =>
      have hneq : ((j : Int) != (k : Int)) = false := by rw [hjk]; simp
      clear hch hr1 hr2 hle
      go_wp2_with fail
      refine wp_region_ro (gl := [(3, some false)]) (WInv := fun _ _ w5 => Chg NoB wr w5) (R := Chg NoB) (Post := PV [some (.int .i64 (j : Int)), some (.int .i64 (k : Int)), some (.bool false), some (.bool false), some (undef), some (undef), some (undef), some (undef), some (undef), some (undef), some (undef), some (undef), some (undef), some (undef), some (.bool false)]) (by kernel_rfl) (by kernel_rfl) (pv_guard (by intro p hp; simp only [List.mem_cons, List.not_mem_nil, or_false] at hp; rcases hp with rfl <;> rfl)) (fun _ _ _ _ h _ _ => h) (fun _ _ _ _ h _ => h) (Chg.refl _ _).drew ⟨?_, ?_, ?_, ?_, ?_, ?_, ?_, ?_, ?_, ?_, ?_, ?_, ?_, ?_, ?_, trivial⟩ ?_
      · rintro kc m a w5 hkc hch hm hn
        obtain ⟨e1, -⟩ := hn
        replace e1 : a.tmps[9]?.getD undef = .int .i64 (j : Int) := e1
        exact rg_val (v := .int .i64 (j : Int)) (by simp [execOp, go_sem, e1]) rfl hch (Chg.refl _ _) rfl
      · rintro kc m a w5 hkc hch hm hn
        obtain ⟨e1, -⟩ := hn
        replace e1 : a.tmps[4]?.getD undef = .int .i64 (k : Int) := e1
        exact rg_val (v := .int .i64 (k : Int)) (by simp [execOp, go_sem, e1]) rfl hch (Chg.refl _ _) rfl
      · rintro kc m a w5 hkc hch hm hn
        obtain ⟨⟨_, e1, _, rfl⟩, ⟨_, e2, _, rfl⟩, -⟩ := hn
        exact rg_val (v := .bool false) (by simp [execOp, go_sem, e1, e2, hneq]) rfl hch (Chg.refl _ _) rfl
      · rintro kc m a w5 hkc hch hm hn
        obtain ⟨⟨_, e1, _, rfl⟩, -⟩ := hn
        exact rg_val (v := .bool false) (by simp [execOp, go_sem, e1]) rfl hch (Chg.refl _ _) rfl
      · rintro kc m w5 hkc hch hm
        exact ⟨hch, Chg.refl _ _, rfl⟩
      · rintro kc m w5 hkc hch hm
        exact ⟨hch, Chg.refl _ _, rfl⟩
      · rintro kc m w5 hkc hch hm
        exact ⟨hch, Chg.refl _ _, rfl⟩
      · rintro kc m w5 hkc hch hm
        exact ⟨hch, Chg.refl _ _, rfl⟩
      · rintro kc m w5 hkc hch hm
        exact ⟨hch, Chg.refl _ _, rfl⟩
      · rintro kc m w5 hkc hch hm
        exact ⟨hch, Chg.refl _ _, rfl⟩
      · rintro kc m w5 hkc hch hm
        exact ⟨hch, Chg.refl _ _, rfl⟩
      · rintro kc m w5 hkc hch hm
        exact ⟨hch, Chg.refl _ _, rfl⟩
      · rintro kc m w5 hkc hch hm
        exact ⟨hch, Chg.refl _ _, rfl⟩
      · rintro kc m w5 hkc hch hm
        exact ⟨hch, Chg.refl _ _, rfl⟩
      · rintro kc m a w5 hkc hch hm hn
        obtain ⟨⟨_, e1, _, rfl⟩, ⟨_, e2, _, rfl⟩, -⟩ := hn
        exact rg_val (v := .bool false) (by simp [execOp, go_sem, e1, e2]) rfl hch (Chg.refl _ _) rfl
      rintro m w2 hc2
      simp only [AllVals]
      rintro v0 _ p0 v1 _ p1 v2 _ p2 v3 _ p3 v4 _ p4 v5 _ p5 v6 _ p6 v7 _ p7 v8 _ p8 v9 _ p9 v10 _ p10 v11 _ p11 v12 _ p12 v13 _ p13 v14 _ p14
      obtain rfl := p14
      clear p0 p1 p2 p3 p4 p5 p6 p7 p8 p9 p10 p11 p12 p13
      simp only [Act.put, List.setIfInBounds_toArray, List.set_cons_succ, List.set_cons_zero]
      have HC2 := Lib.hid hc2
      clear hc2
      go_wp2
      go_roundw
      case rel => exact ⟨j + 1, by omega, by go_num, HCH.out.trans HC2.out⟩
      case measure => simp [intOf]; omega
    have hneq : ((j : Int) != (k : Int)) = true := by rw [bne_iff_ne]; omega
    have hEJ : E[j] = D[j] := by
      have := HES.out
      subst this
      rw [List.getElem_set_ne (fun h => hjk h.symm)]
    rw [hEJ] at z0 z1 hr2
    have HR2K := Lib.hid hr2
    clear hch hr1 hr2 hle HR2J
    go_wp2_with fail
    refine wp_region_ro (gl := [(3, some true)]) (WInv := fun _ _ w5 => Chg NoB wr w5) (R := Chg NoB) (Post := PV [some (.int .i64 (j : Int)), some (.int .i64 (k : Int)), some (.bool true), some (.bool true), some (.slice (some ⟨b2, o2, none⟩) D.length c2), some (.int .i64 (j : Int)), some (.pointer (some ⟨b2, o2 + j * 2, none⟩)), some (.agg #[.int .i64 D[j].wear, .slice A2' D[j].pages.length c2']), some (.slice (some ⟨b1, o1, none⟩) D.length c1), some (.int .i64 (j : Int)), some (.pointer (some ⟨b1, o1 + j * 2, none⟩)), some (.agg #[.int .i64 D[j].wear, .slice A1' D[j].pages.length c1']), some (.bool true), some (.bool false), some (.bool false)]) (by kernel_rfl) (by kernel_rfl) (pv_guard (by intro p hp; simp only [List.mem_cons, List.not_mem_nil, or_false] at hp; rcases hp with rfl <;> rfl)) (fun _ _ _ _ h _ _ => h) (fun _ _ _ _ h _ => h) (Chg.refl _ _).drew ⟨?_, ?_, ?_, ?_, ?_, ?_, ?_, ?_, ?_, ?_, ?_, ?_, ?_, ?_, ?_, trivial⟩ ?_
    · rintro kc m a w5 hkc hch hm hn
      obtain ⟨e1, -⟩ := hn
      replace e1 : a.tmps[9]?.getD undef = .int .i64 (j : Int) := e1
      exact rg_val (v := .int .i64 (j : Int)) (by simp [execOp, go_sem, e1]) rfl hch (Chg.refl _ _) rfl
    · rintro kc m a w5 hkc hch hm hn
      obtain ⟨e1, -⟩ := hn
      replace e1 : a.tmps[4]?.getD undef = .int .i64 (k : Int) := e1
      exact rg_val (v := .int .i64 (k : Int)) (by simp [execOp, go_sem, e1]) rfl hch (Chg.refl _ _) rfl
    · rintro kc m a w5 hkc hch hm hn
      obtain ⟨⟨_, e1, _, rfl⟩, ⟨_, e2, _, rfl⟩, -⟩ := hn
      exact rg_val (v := .bool true) (by simp [execOp, go_sem, e1, e2, hneq]) rfl hch (Chg.refl _ _) rfl
    · rintro kc m a w5 hkc hch hm hn
      obtain ⟨⟨_, e1, _, rfl⟩, -⟩ := hn
      exact rg_val (v := .bool true) (by simp [execOp, go_sem, e1]) rfl hch (Chg.refl _ _) rfl
    · rintro kc m a w5 hkc hch hm hn
      obtain ⟨e1, -⟩ := hn
      replace e1 : a.tmps[5]?.getD undef = .slice (some ⟨b2, o2, none⟩) D.length c2 := e1
      exact rg_val (v := .slice (some ⟨b2, o2, none⟩) D.length c2) (by simp [execOp, go_sem, e1]) rfl hch (Chg.refl _ _) rfl
    · rintro kc m a w5 hkc hch hm hn
      obtain ⟨e1, -⟩ := hn
      replace e1 : a.tmps[9]?.getD undef = .int .i64 (j : Int) := e1
      exact rg_val (v := .int .i64 (j : Int)) (by simp [execOp, go_sem, e1]) rfl hch (Chg.refl _ _) rfl
    · rintro kc m a w5 hkc hch hm hn
      obtain ⟨⟨_, e1, _, rfl⟩, ⟨_, e2, _, rfl⟩, -⟩ := hn
      exact rg_val (v := .pointer (some ⟨b2, o2 + j * 2, none⟩)) (by simp [execOp, go_sem, e1, e2]; exact fun hh => absurd hh (by omega)) rfl hch (Chg.refl _ _) rfl
    · rintro kc m a w5 hkc hch hm hn
      obtain ⟨⟨_, e1, _, rfl⟩, -⟩ := hn
      have c0 := Chg.cell hch z0 (fun x => x)
      have c1 := Chg.cell hch z1 (fun x => x)
      exact rg_val (v := .agg #[.int .i64 D[j].wear, .slice A2' D[j].pages.length c2']) (by simp [execOp, go_sem, e1, c0, c1]) rfl hch (Chg.refl _ _) rfl
    · rintro kc m a w5 hkc hch hm hn
      obtain ⟨e1, -⟩ := hn
      replace e1 : a.tmps[3]?.getD undef = .slice (some ⟨b1, o1, none⟩) D.length c1 := e1
      exact rg_val (v := .slice (some ⟨b1, o1, none⟩) D.length c1) (by simp [execOp, go_sem, e1]) rfl hch (Chg.refl _ _) rfl
    · rintro kc m a w5 hkc hch hm hn
      obtain ⟨e1, -⟩ := hn
      replace e1 : a.tmps[9]?.getD undef = .int .i64 (j : Int) := e1
      exact rg_val (v := .int .i64 (j : Int)) (by simp [execOp, go_sem, e1]) rfl hch (Chg.refl _ _) rfl
    · rintro kc m a w5 hkc hch hm hn
      obtain ⟨⟨_, e1, _, rfl⟩, ⟨_, e2, _, rfl⟩, -⟩ := hn
      exact rg_val (v := .pointer (some ⟨b1, o1 + j * 2, none⟩)) (by simp [execOp, go_sem, e1, e2]; exact fun hh => absurd hh (by omega)) rfl hch (Chg.refl _ _) rfl
    · rintro kc m a w5 hkc hch hm hn
      obtain ⟨⟨_, e1, _, rfl⟩, -⟩ := hn
      have c0 := Chg.cell hch d0 (fun x => x)
      have c1 := Chg.cell hch d1 (fun x => x)
      exact rg_val (v := .agg #[.int .i64 D[j].wear, .slice A1' D[j].pages.length c1']) (by simp [execOp, go_sem, e1, c0, c1]) rfl hch (Chg.refl _ _) rfl
    · rintro kc m a w5 hkc hch hm hn
      obtain ⟨⟨_, e1, _, rfl⟩, ⟨_, e2, _, rfl⟩, -⟩ := hn
      refine rg_call (f := 41) (args := #[.agg #[.int .i64 D[j].wear, .slice A2' D[j].pages.length c2'], .agg #[.int .i64 D[j].wear, .slice A1' D[j].pages.length c1']]) (by simp [go_sem, e1, e2]) rfl ?_
      refine (sameBlock_t _ _ A2' A1' c2' c1' D[j] _ (HR2K.out.new hch) (HR1J.out.new hch) HPL.out).mono ?_
      rintro e w6 ⟨rfl, hc6⟩
      exact ⟨_, rfl, hch.trans hc6, hc6, rfl⟩
    · rintro kc m a w5 hkc hch hm hn
      obtain ⟨⟨_, e1, _, rfl⟩, -⟩ := hn
      exact rg_val (v := .bool false) (by simp [execOp, go_sem, e1]) rfl hch (Chg.refl _ _) rfl
    · rintro kc m a w5 hkc hch hm hn
      obtain ⟨⟨_, e1, _, rfl⟩, ⟨_, e2, _, rfl⟩, -⟩ := hn
      exact rg_val (v := .bool false) (by simp [execOp, go_sem, e1, e2]) rfl hch (Chg.refl _ _) rfl
    rintro m w2 hc2
    simp only [AllVals]
    rintro v0 _ p0 v1 _ p1 v2 _ p2 v3 _ p3 v4 _ p4 v5 _ p5 v6 _ p6 v7 _ p7 v8 _ p8 v9 _ p9 v10 _ p10 v11 _ p11 v12 _ p12 v13 _ p13 v14 _ p14
    obtain rfl := p14
    clear p0 p1 p2 p3 p4 p5 p6 p7 p8 p9 p10 p11 p12 p13
    simp only [Act.put, List.setIfInBounds_toArray, List.set_cons_succ, List.set_cons_zero]
    have HC2 := Lib.hid hc2
    clear hc2
    go_wp2
    go_roundw
    case rel => exact ⟨j + 1, by omega, by go_num, HCH.out.trans HC2.out⟩
    case measure => simp [intOf]; omega
end Go.Proofs.Ytenbbkmbnpdfaaa
