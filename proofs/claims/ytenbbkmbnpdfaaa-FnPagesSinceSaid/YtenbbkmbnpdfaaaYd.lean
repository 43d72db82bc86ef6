/- DrawWearTotal; the law FnWearTotal: the walk. -/
import Derived.Test.YtenbbkmbnpdfaaaYc
import Derived.Test.YtenbbkmbnpdfaaaVf
import Derived.Deep.RegionHeld3
import Derived.Lib.MinMax
namespace Go.Proofs.Ytenbbkmbnpdfaaa
open Go.RowKit
def DvDrawn (w : World) (e : Ending) (w' : World) : Prop :=
  ∃ A c D, e = .returned (.slice A (D : List Bk).length c) ∧ DevR (fun i => w.heap.size ≤ i) w' A D ∧ D.length ≤ c ∧ D.length ≤ 13 ∧ (∀ b ∈ D, b.pages.length ≤ 4) ∧ Chg NoB w w'
theorem small13 {D : List Bk} (h : D.length ≤ 13) (h4 : ∀ b ∈ D, b.pages.length ≤ 4) : Small D := ⟨by omega, fun k hk => by have := h4 _ (List.getElem_mem hk); omega⟩
theorem devR_tail {F : Nat → Prop} {w : World} {b o : Nat} {D : List Bk} (h : DevR F w (some ⟨b, o, none⟩) D) : DevR F w (some ⟨b, o + 2, none⟩) (D.drop 1) := fun k hk => by
  rw [List.length_drop] at hk
  obtain ⟨b', o', A', c, e, hf, h1, h2, hr, hc⟩ := h (k + 1) (by omega)
  injection e with e
  injection e with e1 e2
  subst e1 e2
  have e3 : (D.drop 1)[k]'(by rw [List.length_drop]; exact hk) = D[k + 1] := by rw [List.getElem_drop]; congr 1; omega
  rw [e3]
  exact ⟨b, o + 2, A', c, rfl, hf, by rw [← h1]; congr 2; omega, by rw [← h2]; congr 2; omega, hr, hc⟩
theorem DvOk.tail {D : List Bk} (h : DvOk D) (h2 : 2 ≤ D.length) : DvOk (D.drop 1) := ⟨by rw [List.length_drop]; have := h.1; omega, fun k hk => by
  rw [List.length_drop] at hk
  have e3 : (D.drop 1)[k]'(by rw [List.length_drop]; exact hk) = D[k + 1] := by rw [List.getElem_drop]; congr 1; omega
  rw [e3]; exact h.2 _ _⟩
theorem sumTo_tail (D : List Bk) (n : Nat) : sumTo' D (n + 1) = wearAt D 0 + sumTo' (D.drop 1) n := by
  induction n with
  | zero => simp [sumTo']
  | succ n ih =>
    rw [sumTo', ih, sumTo']
    have : wearAt (D.drop 1) n = wearAt D (n + 1) := by unfold wearAt; rw [List.getD_eq_getElem?_getD, List.getD_eq_getElem?_getD, List.getElem?_drop, Nat.add_comm]
    omega
theorem wearAt_range {D : List Bk} (h : DvOk D) (k : Nat) : 0 ≤ wearAt D k ∧ wearAt D k ≤ 100 := by
  unfold wearAt
  by_cases hk : k < D.length
  · rw [getD_get _ _ hk]; exact (h.2 k hk).1
  · rw [List.getD_eq_getElem?_getD, List.getElem?_eq_none (by omega)]
    exact ⟨Int.le_refl 0, by show (0 : Int) ≤ 100; omega⟩
theorem sumTo_range {D : List Bk} (h : DvOk D) (n : Nat) : 0 ≤ sumTo' D n ∧ sumTo' D n ≤ 100 * (n : Int) := by
  induction n with
  | zero => simp [sumTo']
  | succ n ih =>
    have := wearAt_range h n
    unfold sumTo'
    omega
theorem wearTotal_tail {D : List Bk} (h : DvOk D) : wearTotal D = wearAt D 0 + max 0 (wearTotal (D.drop 1)) := by
  have hl := h.1
  unfold wearTotal
  rw [if_pos h]
  obtain ⟨n, hn⟩ : ∃ n, D.length = n + 1 := ⟨D.length - 1, by omega⟩
  rw [hn, sumTo_tail]
  by_cases h2 : 2 ≤ D.length
  · rw [if_pos (h.tail h2), List.length_drop, hn, Nat.add_sub_cancel]
    have := (sumTo_range (h.tail h2) n).1
    omega
  · have hn0 : n = 0 := by omega
    subst hn0
    rw [if_neg (fun hh => by have := hh.1.1; rw [List.length_drop] at this; omega)]
    simp only [sumTo']
    omega
set_option maxRecDepth 100000 in
set_option maxHeartbeats 1000000 in
theorem DrawWearTotal_any (A0 : Option Addr) (c0 : Nat) (bs : List Nat) (w : World) (h : Rd (fun i => i < w.heap.size) w A0 (bs.map fun (b : Nat) => Value.int .u8 (b : Int))) (hx : ∀ b ∈ bs, b < 256) (hc : bs.length ≤ c0) :
    Calls Try.prog 34 #[.slice A0 bs.length c0] w (DvDrawn w) := by
  go_enter Try.func34, Try.ntmps34
  go_wp2_with fail
  refine (l20Open_any A0 c0 bs _ h hx hc).mono ?_
  rintro e w1 ⟨g, rfl, hg, hc1, hr1⟩
  have HG := Lib.hid hg
  have HC1 := Lib.hid hc1
  clear hg hc1 h hx hc
  go_wp2_with fail
  refine (l20Device_any g 0 6 _ hr1 (by omega) (by omega) (by omega)).mono ?_
  rintro e w2 ⟨A, c, D, hh, rfl, hrd, hlc, h13, h4, hc2, hr2⟩
  have hca := (Chg.refl NoB w2).alloc (.cells #[.int .i64 hh.hot, .int .i64 hh.warm, .int .i64 hh.cold] 38)
  have HC := Lib.hid ((HC1.out.own hc2 (by rw [HG.out]; exact Nat.le_refl _)).trans hca)
  have HRD := Lib.hid (hrd.new hca)
  have HS := Lib.hid HC1.out.size
  clear hca hc2 hrd hr1 hr2
  go_wp2
  go_ret
  exact ⟨A, c, D, rfl, HRD.out.mono (fun i _ hi => by have := HS.out; omega), hlc, h13, h4, HC.out⟩
set_option maxRecDepth 100000 in
set_option maxHeartbeats 4000000 in
theorem FnWearTotal_any (A : Option Addr) (c : Nat) (bs : List Nat) (w : World) (h : Rd (fun i => i < w.heap.size) w A (bs.map fun (b : Nat) => Value.int .u8 (b : Int))) (hx : ∀ b ∈ bs, b < 256) (hc : bs.length ≤ c) (_hm : c ≤ maxLen) :
    Calls Try.prog 8 #[.slice A bs.length c] w fun e w' => e = .returned (.bool true) ∧ Chg NoB w w' := by
  by_cases hl : 1048576 < bs.length
  · go_enter Try.func8, Try.ntmps8
    go_wp2
    go_ret
    exact ⟨rfl, Chg.refl _ _⟩
  have hl' : bs.length ≤ 1048576 := by omega
  go_enter Try.func8, Try.ntmps8
  go_wp2_with fail
  refine (DrawWearTotal_any A c bs w h hx hc).mono ?_
  rintro e w1 ⟨A1, c1, D, rfl, hrd, hlc, h13, h4, hc1⟩
  have HR1 := Lib.hid hrd
  have HC1 := Lib.hid hc1
  have HSM := Lib.hid (small13 h13 h4)
  clear hrd hc1 h hx hc h4
  go_wp2_with fail
  refine (iWearTotal_any _ A1 c1 D _ HR1.out).mono ?_
  rintro e w2 ⟨rfl, hc2⟩
  have HC2 := Lib.hid (HC1.out.trans hc2)
  have HR2 := Lib.hid (HR1.out.new hc2)
  clear hc2
  obtain ⟨z, hz⟩ : ∃ z, wearTotal D = z := ⟨_, rfl⟩
  have HZ := Lib.hid hz
  rw [hz]
  clear hz
  go_wp2_with fail
  refine (sWearTotal_any _ A1 c1 D _ HR2.out HSM.out).mono ?_
  rintro e w3 ⟨rfl, hc3⟩
  rw [HZ.out]
  have HC3 := Lib.hid (HC2.out.trans hc3)
  have HR3 := Lib.hid (HR2.out.new hc3)
  have hzz : (z != z) = false := by simp
  clear hc3
  by_cases hd : DvOk D
  case neg =>
    have hz1 : z = -1 := by rw [← HZ.out]; unfold wearTotal; exact if_neg hd
    subst hz1
    clear hd
    go_wp2_with fail
    refine (alive_any _).mono ?_
    rintro e w' ⟨rfl, rfl⟩
    go_wp2
    go_ret
    exact ⟨rfl, HC3.out⟩
  have hz0 : ¬ (z < 0) := by
    rw [← HZ.out]; unfold wearTotal; rw [if_pos hd]
    have := (sumTo_range hd D.length).1
    omega
  have hD := hd.1
  obtain ⟨b, o, A', c', rfl, -, c0, -, -, -⟩ := HR3.out 0 (by omega)
  have hw0 : D[0].wear = wearAt D 0 := by unfold wearAt; rw [getD_get _ _ (by omega)]
  rw [hw0] at c0
  have hE := wearTotal_tail hd
  rw [HZ.out] at hE
  have HE := Lib.hid hE
  have hwr := wearAt_range hd 0
  have HRT := Lib.hid (show DevR (fun i => w.heap.size ≤ i) w3 (if c1 = 1 then some ⟨b, o, none⟩ else some ⟨b, o + 2, none⟩) (D.drop 1) by
    split
    · exact fun k hk => absurd hk (by rw [List.length_drop]; omega)
    · exact devR_tail HR3.out)
  obtain ⟨x, hx⟩ : ∃ x, wearAt D 0 = x := ⟨_, rfl⟩
  rw [hx] at c0 HE hwr
  obtain ⟨u, hu⟩ : ∃ u, wearTotal (D.drop 1) = u := ⟨_, rfl⟩
  have HU := Lib.hid hu
  rw [hu] at HE
  have hur : u ≤ 1300 := by
    rw [← hu]; unfold wearTotal
    split
    · rename_i h1
      have := (sumTo_range h1 (D.drop 1).length).2
      rw [List.length_drop] at this ⊢
      omega
    · omega
  have hL0 : (0 : Int) < (D.length : Int) := by omega
  have hLn : ¬ ((D.length : Int) ≤ 0) := by omega
  have hLz : 0 < D.length := by omega
  have hL1 : (1 : Int) ≤ (D.length : Int) := by omega
  have hL2 : (D.length : Int) ≤ (c1 : Int) := by omega
  have hL3 : 1 ≤ D.length := by omega
  have hlen1 : (D.drop 1).length = D.length - 1 := List.length_drop
  have HDC := Lib.hid (show ∀ wq, Chg NoB w3 wq → Calls Try.prog 22 #[.slice (if c1 = 1 then some ⟨b, o, none⟩ else some ⟨b, o + 2, none⟩) (D.length - 1) (c1 - 1)] wq fun e w' => e = .returned (.int .i64 u) ∧ Chg NoB wq w' from fun wq hq => by
    have := iWearTotal_any _ (if c1 = 1 then some ⟨b, o, none⟩ else some ⟨b, o + 2, none⟩) (c1 - 1) (D.drop 1) wq (HRT.out.new hq)
    rwa [hlen1, HU.out] at this)
  obtain ⟨hwr0, hwr1⟩ := hwr
  have hcell0 : w3.cell? ⟨b, o, none⟩ = some (.int .i64 x) := by have := c0; simpa using this
  have HX0 := Lib.hid hcell0
  obtain ⟨mx, hmx⟩ : ∃ mx, max 0 u = mx := ⟨_, rfl⟩
  have hE2 := HE.out
  rw [hmx] at hE2
  have hm0 : 0 ≤ mx ∧ mx ≤ 1300 := by omega
  have hsum : IntKind.i64.wrap (x + mx) = x + mx := IntWalk.i64_in _ ⟨by omega, by omega⟩
  have heq : (z == x + mx) = true := by rw [hE2]; simp
  clear hd hw0 hE hx hu c0 hlen1 hE2
  by_cases hc11 : c1 = 1
  · have hDl : D.length = 1 := by omega
    have HD2 := Lib.hid (show ∀ wq, Chg NoB w3 wq → Calls Try.prog 22 #[.slice (some ⟨b, o, none⟩) 0 0] wq fun e w' => e = .returned (.int .i64 u) ∧ Chg NoB wq w' from fun wq hq => by
      have := HDC.out wq hq
      rw [if_pos hc11, hDl, hc11] at this
      exact this)
    rw [hDl]
    clear HDC
    subst hc11
    go_wp2_with fail
    go_region_held3 (fun w' => w'.cell? ⟨b, o, none⟩ = some (.int .i64 x))
      (first | go_keep | exact ((Chg.refl NoB w3).drew.trans hcc).cell HX0.out (fun x => x))
      (first | (go_at_call 22; refine (HD2.out _ (Chg.refl NoB w3).drew).mono ?_; rintro e' w4 ⟨rfl, hcc⟩))
    have HC4 := Lib.hid ((HC3.out.trans (Chg.refl NoB w3).drew).trans hcc)
    clear hcc
    go_wp2
    go_ret
    exact ⟨rfl, HC4.out⟩
  · have HD2 := Lib.hid (fun wq hq => by have := HDC.out wq hq; rwa [if_neg hc11] at this)
    clear HDC
    go_wp2_with fail
    go_region_held3 (fun w' => w'.cell? ⟨b, o, none⟩ = some (.int .i64 x))
      (first | go_keep | exact ((Chg.refl NoB w3).drew.trans hcc).cell HX0.out (fun x => x))
      (first | (go_at_call 22; refine (HD2.out _ (Chg.refl NoB w3).drew).mono ?_; rintro e' w4 ⟨rfl, hcc⟩))
    have HC4 := Lib.hid ((HC3.out.trans (Chg.refl NoB w3).drew).trans hcc)
    clear hcc
    go_wp2
    go_ret
    exact ⟨rfl, HC4.out⟩
end Go.Proofs.Ytenbbkmbnpdfaaa
