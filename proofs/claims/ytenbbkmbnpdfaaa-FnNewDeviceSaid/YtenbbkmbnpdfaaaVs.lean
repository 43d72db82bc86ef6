/- The law FnNewDevice: the walk. -/
import Derived.Test.YtenbbkmbnpdfaaaVr
import Derived.Test.YtenbbkmbnpdfaaaVq
import Derived.Test.YtenbbkmbnpdfaaaVg
import Derived.Test.YtenbbkmbnpdfaaaVf
namespace Go.Proofs.Ytenbbkmbnpdfaaa
open Go.RowKit
theorem newBk_ok : BkOk ⟨0, List.replicate 4 zPg⟩ := ⟨⟨by show (0 : Int) ≤ 0; omega, by show (0 : Int) ≤ 100; omega⟩, by simp, fun k hk => ⟨by simp only [List.getElem_replicate]; exact PgOk.zero, fun _ hf => by simp only [List.getElem_replicate] at hf; cases hf⟩⟩
theorem newDv_len {n : Nat} (h : 1 ≤ n ∧ n ≤ 12) : (newDevice n).length = n := by rw [newDevice_ok (by omega)]; simp
theorem newDv_get {n : Nat} (h : 1 ≤ n ∧ n ≤ 12) (k : Nat) (hk : k < n) : (newDevice n).getD k zBk = ⟨0, List.replicate 4 zPg⟩ := by
  rw [newDevice_ok (by omega), newBlock_ok (by omega), List.getD_eq_getElem?_getD, List.getElem?_replicate, if_pos (by simpa using hk)]
  rfl
theorem newDv_ok {n : Nat} (h : 1 ≤ n ∧ n ≤ 12) : DvOk (newDevice n) := by
  refine ⟨by rw [newDv_len h]; exact h, fun k hk => ?_⟩
  have := newDv_get h k (by rw [newDv_len h] at hk; exact hk)
  rw [List.getD_eq_getElem?_getD, List.getElem?_eq_getElem hk, Option.getD_some] at this
  rw [this]
  exact newBk_ok
theorem newDv_free {n : Nat} (h : 1 ≤ n ∧ n ≤ 12) : freePages (newDevice n) = 4 * (n : Int) := by
  have : ∀ k, k ≤ n → freeTo (newDevice n) k = 4 * k := by
    intro k
    induction k with
    | zero => intro _; rfl
    | succ k ih =>
      intro hk
      unfold freeTo
      rw [ih (by omega), newDv_get h k (by omega)]
      have : written (List.replicate 4 zPg) = 0 := by rfl
      simp only [this]
      omega
  unfold freePages
  rw [if_pos (newDv_ok h), newDv_len h, this n (Nat.le_refl _)]
  omega
theorem newDv_wear {n : Nat} (h : 1 ≤ n ∧ n ≤ 12) : wearTotal (newDevice n) = 0 := by
  have : ∀ k, k ≤ n → sumTo' (newDevice n) k = 0 := by
    intro k
    induction k with
    | zero => intro _; rfl
    | succ k ih =>
      intro hk
      unfold sumTo' wearAt
      rw [ih (by omega), newDv_get h k (by omega)]
      rfl
  unfold wearTotal
  rw [if_pos (newDv_ok h), newDv_len h, this _ (Nat.le_refl _)]
def NDDraw (w : World) (e : Ending) (w' : World) : Prop := ∃ k : Nat, e = .returned (.int .i64 ((k : Int) - 1)) ∧ k < 15 ∧ Chg NoB w w'
set_option maxRecDepth 100000 in
set_option maxHeartbeats 1000000 in
theorem DrawNewDevice_any (A0 : Option Addr) (c0 : Nat) (bs : List Nat) (w : World) (h : Rd (fun i => i < w.heap.size) w A0 (bs.map fun (b : Nat) => Value.int .u8 (b : Int))) (hx : ∀ b ∈ bs, b < 256) (hc : bs.length ≤ c0) :
    Calls Try.prog 15 #[.slice A0 bs.length c0] w (NDDraw w) := by
  go_enter Try.func15, Try.ntmps15
  go_wp2_with fail
  refine (l20Open_any A0 c0 bs _ h hx hc).mono ?_
  rintro e w1 ⟨g, rfl, hg, hc1, hr1⟩
  have HG := Lib.hid hg
  have HC1 := Lib.hid hc1
  clear hg hc1 h hx hc
  go_wp2_with fail
  refine (pick_any g 0 15 _ hr1 (by omega) (by omega) (by omega)).mono ?_
  rintro e w2 ⟨k, rfl, hk, hc2, hr2⟩
  have HC := Lib.hid (HC1.out.own hc2 (by rw [HG.out]; exact Nat.le_refl _))
  have h1 : (-9223372036854775808 : Int) ≤ (k : Int) - 1 := by omega
  have h2 : (k : Int) - 1 ≤ 9223372036854775807 := by omega
  clear hc2 hr1 hr2
  go_wp2
  go_ret
  exact ⟨k, rfl, by omega, HC.out⟩
set_option maxRecDepth 100000 in
set_option maxHeartbeats 4000000 in
theorem FnNewDevice_any (A : Option Addr) (c : Nat) (bs : List Nat) (w : World) (h : Rd (fun i => i < w.heap.size) w A (bs.map fun (b : Nat) => Value.int .u8 (b : Int))) (hx : ∀ b ∈ bs, b < 256) (hc : bs.length ≤ c) (_hm : c ≤ maxLen) :
    Calls Try.prog 3 #[.slice A bs.length c] w fun e w' => e = .returned (.bool true) ∧ Chg NoB w w' := by
  by_cases hl : 1048576 < bs.length
  · go_enter Try.func3, Try.ntmps3
    go_wp2
    go_ret
    exact ⟨rfl, Chg.refl _ _⟩
  have hl' : bs.length ≤ 1048576 := by omega
  go_enter Try.func3, Try.ntmps3
  go_wp2_with fail
  refine (DrawNewDevice_any A c bs w h hx hc).mono ?_
  rintro e w1 ⟨k, rfl, hk, hc1⟩
  obtain ⟨z, hz⟩ : ∃ z : Int, (k : Int) - 1 = z := ⟨_, rfl⟩
  have hz0 : -1 ≤ z ∧ z < 14 := by omega
  rw [hz]
  have HC1 := Lib.hid hc1
  clear hz hc1 h hx hc hk
  go_wp2_with fail
  refine (iNewDevice_any z _).mono ?_
  rintro e w2 ⟨A2, c2, T2, rfl, hT2, hO2, hc2⟩
  have HC2 := Lib.hid (HC1.out.trans hc2)
  have hR2 := hO2.reads
  rw [hT2] at hR2
  have HR2 := Lib.hid hR2
  clear hc2 hO2 hT2 hR2
  go_wp2_with fail
  refine (sNewDevice_any z _).mono ?_
  rintro e w3 ⟨A3, c3, T3, rfl, hT3, hO3, hc3⟩
  have HC3 := Lib.hid (HC2.out.trans hc3)
  have hR3 := hO3.reads
  rw [hT3] at hR3
  have HR3 := Lib.hid hR3
  have HR23 := Lib.hid (HR2.out.new hc3)
  have HS := Lib.hid (show Small (newDevice z) by
    by_cases hz : 1 ≤ z ∧ z ≤ 12
    · obtain ⟨n, rfl⟩ := Int.eq_ofNat_of_zero_le (show 0 ≤ z by omega)
      exact (newDv_ok (by omega)).small
    · rw [newDevice_no hz]; exact ⟨by simp, fun k hk => absurd hk (by simp)⟩)
  clear hc3 hO3 hT3 hR3
  go_wp2_with fail
  refine (sameDevice_t _ _ A2 A3 c2 c3 _ _ HR23.out HR3.out HS.out).mono ?_
  rintro e w4 ⟨rfl, hc4⟩
  have HC4 := Lib.hid (HC3.out.trans hc4)
  have HR4 := Lib.hid (HR23.out.new hc4)
  clear hc4
  by_cases hz : 1 ≤ z ∧ z ≤ 12
  case neg =>
    rw [newDevice_no hz]
    simp only [List.length_nil]
    by_cases h1 : z < 1
    all_goals
      (try (have h2 : 12 < z := by omega))
      go_wp2_with fail
      refine (alive_any _).mono ?_
      rintro e w' ⟨rfl, rfl⟩
      go_wp2
      go_ret
      exact ⟨rfl, HC4.out⟩
  obtain ⟨n, rfl⟩ := Int.eq_ofNat_of_zero_le (show 0 ≤ z by omega)
  have hn : 1 ≤ n ∧ n ≤ 12 := by omega
  have hlen : (newDevice (n : Int)).length = n := newDv_len hn
  have hdec : decide (DvOk (newDevice (n : Int))) = true := decide_eq_true (newDv_ok hn)
  have HFR := Lib.hid (newDv_free hn)
  have HLS := Lib.hid (newDv_wear hn)
  have hne : ((n : Int) == 0) = false := beq_eq_false_iff_ne.2 (by omega)
  have hnn : ((n : Int) == (n : Int)) = true := by simp
  have h4n : ((4 : Int) * (n : Int) == 4 * (n : Int)) = true := by simp
  obtain ⟨D, hD⟩ : ∃ D, newDevice (n : Int) = D := ⟨_, rfl⟩
  rw [hD] at hlen hdec HFR HLS HR4 ⊢
  have HD := Lib.hid (iDeviceValid_any _ A2 c2 D _ HR4.out)
  have HLEN := Lib.hid hlen
  rw [hlen] at HD ⊢
  clear hlen hD HR2 HR3 HR23 HS
  go_wp2_with fail
  refine HD.out.mono ?_
  rintro e w5 ⟨rfl, hc5⟩
  rw [hdec]
  have HC5 := Lib.hid (HC4.out.trans hc5)
  have HR5 := Lib.hid (HR4.out.new hc5)
  have hF := iFreePages_any _ A2 c2 D _ HR5.out
  rw [HLEN.out] at hF
  have HF := Lib.hid hF
  clear hc5 hF
  go_wp2_with fail
  refine HF.out.mono ?_
  rintro e w6 ⟨rfl, hc6⟩
  rw [HFR.out]
  have HC6 := Lib.hid (HC5.out.trans hc6)
  have HR6 := Lib.hid (HR5.out.new hc6)
  have hF := iWearTotal_any _ A2 c2 D _ HR6.out
  rw [HLEN.out] at hF
  have HF6 := Lib.hid hF
  clear hc6 hF
  go_wp2_with fail
  refine HF6.out.mono ?_
  rintro e w7 ⟨rfl, hc7⟩
  rw [HLS.out]
  have HC7 := Lib.hid (HC6.out.trans hc7)
  clear hc7
  go_wp2
  go_ret
  exact ⟨rfl, HC7.out⟩
end Go.Proofs.Ytenbbkmbnpdfaaa
