/- The law FnHeatStep: the walk. -/
import Derived.Test.YtdblfcmmeggpdaaHs
namespace Go.Proofs.Ytdblfcmmeggpdaa
open Go.RowKit
theorem heatStep_mono (h x : Int) (hn : ¬ heatStep h x < 0) (h100 : x ≠ 100) : heatStep h x ≤ heatStep h (x + 1) := by
  unfold heatStep at *
  split at hn
  · omega
  · split
    · omega
    · split <;> omega
set_option maxRecDepth 100000 in
set_option maxHeartbeats 2000000 in
theorem FnHeatStep_any (A : Option Addr) (c : Nat) (bs : List Nat) (w : World) (h : Rd (fun i => i < w.heap.size) w A (bs.map fun (b : Nat) => Value.int .u8 (b : Int))) (hx : ∀ b ∈ bs, b < 256) (hc : bs.length ≤ c) (_hm : c ≤ maxLen) :
    Calls Try.prog 5 #[.slice A bs.length c] w fun e w' => e = .returned (.bool true) ∧ Chg NoB w w' := by
  by_cases hl : 1048576 < bs.length
  · go_enter Try.func5, Try.ntmps5
    go_wp2
    go_ret
    exact ⟨rfl, Chg.refl _ _⟩
  have hl' : bs.length ≤ 1048576 := by omega
  go_enter Try.func5, Try.ntmps5
  go_wp2_with fail
  refine (DrawHeatStep_any A c bs w h hx hc).mono ?_
  rintro e w1 ⟨t, x, rfl, hc1⟩
  have HC1 := Lib.hid hc1
  obtain ⟨n, hn⟩ : ∃ n, heatStep t x = n := ⟨_, rfl⟩
  have hr : n ≤ 1000 := by rw [← hn]; exact (heatStep_ge t x).2
  have hmo := Lib.hid (show 0 ≤ n → x ≠ 100 → n ≤ heatStep t (x + 1) from fun h0 => by rw [← hn] at h0 ⊢; exact heatStep_mono t x (by omega))
  have hbad := Lib.hid (show n < 0 → n = -1 by rw [← hn]; unfold heatStep; split <;> omega)
  have hlim := Lib.hid (show 0 ≤ n → 0 ≤ x ∧ x ≤ 100 by rw [← hn]; unfold heatStep; split <;> omega)
  have HN := Lib.hid hn
  clear hn
  clear hc1
  go_wp2_with fail
  refine (iHeatStep_any _ _ _).mono ?_
  rintro e w' ⟨rfl, rfl⟩
  rw [HN.out]
  go_wp2_with fail
  refine (sHeatStep_any _ _ _).mono ?_
  rintro e w' ⟨rfl, rfl⟩
  rw [HN.out]
  have hnn : (n != n) = false := by simp
  by_cases h0 : n < 0
  · obtain rfl : n = -1 := hbad.out h0
    go_wp2_with fail
    refine (alive_any _).mono ?_
    rintro e w' ⟨rfl, rfl⟩
    go_wp2
    go_ret
    exact ⟨rfl, HC1.out⟩
  · have h0' : 0 ≤ n := by omega
    obtain ⟨hx0, hx1⟩ := hlim.out h0'
    by_cases h100 : x = 100
    · have h100' : (x == 100) = true := beq_iff_eq.2 h100
      clear h100
      go_wp2
      go_ret
      exact ⟨rfl, HC1.out⟩
    · have h100' : (x == 100) = false := beq_eq_false_iff_ne.2 h100
      have hge := hmo.out h0' h100
      have HG := Lib.hid hge
      clear h100 hge
      go_wp2_with fail
      refine (iHeatStep_any _ _ _).mono ?_
      rintro e w' ⟨rfl, rfl⟩
      have hge := HG.out
      generalize heatStep t (x + 1) = n2 at hge
      go_wp2
      go_ret
      exact ⟨rfl, HC1.out⟩
end Go.Proofs.Ytdblfcmmeggpdaa
