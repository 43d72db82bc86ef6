/- Heat: what HeatStep, HeatKind, HeatRun and CoolsIn return, of the program and of the reference. -/
import Derived.Test.YtdblfcmmeggpdaaDa
import Derived.Test.YtdblfcmmeggpdaaN
import Derived.Test.YtdblfcmmeggpdaaI
namespace Go.Proofs.Ytdblfcmmeggpdaa
open Go.RowKit

def heatStep (h x : Int) : Int := if h < 0 ∨ 1000 < h ∨ x < 0 ∨ 100 < x then -1 else min (h / 2 + 10 * x) 1000
theorem heatStep_ge (h x : Int) : -1 ≤ heatStep h x ∧ heatStep h x ≤ 1000 := by unfold heatStep; split <;> omega
theorem heatStep_neg (x : Int) : heatStep (-1) x = -1 := by simp [heatStep]

set_option maxHeartbeats 400000 in
theorem iHeatStep_any (h x : Int) (w : World) :
    Calls Try.prog 16 #[.int .i64 h, .int .i64 x] w fun e w' => e = .returned (.int .i64 (heatStep h x)) ∧ w = w' := by
  go_enter Try.func16, Try.ntmps16
  by_cases h1 : h < 0
  · go_wp2
    go_ret
    exact ⟨ret_int (by unfold heatStep; (repeat' split) <;> omega), rfl⟩
  by_cases h2 : 1000 < h
  · go_wp2
    go_ret
    exact ⟨ret_int (by unfold heatStep; (repeat' split) <;> omega), rfl⟩
  by_cases h3 : x < 0
  · go_wp2
    go_ret
    exact ⟨ret_int (by unfold heatStep; (repeat' split) <;> omega), rfl⟩
  by_cases h4 : 100 < x
  · go_wp2
    go_ret
    exact ⟨ret_int (by unfold heatStep; (repeat' split) <;> omega), rfl⟩
  have h0 : 0 ≤ h / 2 + 10 * x := by omega
  go_wp2
  all_goals go_ret
  all_goals exact ⟨ret_int (by unfold heatStep; (repeat' split) <;> omega), rfl⟩

set_option maxHeartbeats 400000 in
theorem sHeatStep_any (h x : Int) (w : World) :
    Calls Try.prog 15 #[.int .i64 h, .int .i64 x] w fun e w' => e = .returned (.int .i64 (heatStep h x)) ∧ w = w' := by
  go_enter Try.func15, Try.ntmps15
  by_cases h1 : 0 ≤ h ∧ h ≤ 1000
  · by_cases h2 : 0 ≤ x ∧ x ≤ 100
    · have h0 : 0 ≤ h / 2 + 10 * x := by omega
      go_wp2_with fail
      refine (l1In_t h 0 1000 _ h1).mono ?_
      rintro e w' ⟨rfl, rfl⟩
      go_wp2_with fail
      refine (l1In_t x 0 100 _ h2).mono ?_
      rintro e w' ⟨rfl, rfl⟩
      go_wp2
      all_goals go_ret
      all_goals exact ⟨ret_int (by unfold heatStep; (repeat' split) <;> omega), rfl⟩
    · go_wp2_with fail
      refine (l1In_t h 0 1000 _ h1).mono ?_
      rintro e w' ⟨rfl, rfl⟩
      go_wp2_with fail
      refine (l1In_f x 0 100 _ h2).mono ?_
      rintro e w' ⟨rfl, rfl⟩
      go_wp2
      all_goals go_ret
      all_goals exact ⟨ret_int (by unfold heatStep; (repeat' split) <;> omega), rfl⟩
  · go_wp2_with fail
    refine (l1In_f h 0 1000 _ h1).mono ?_
    rintro e w' ⟨rfl, rfl⟩
    go_wp2
    all_goals go_ret
    all_goals exact ⟨ret_int (by unfold heatStep; (repeat' split) <;> omega), rfl⟩

def heatKind (h : Int) : Int := if h < 0 ∨ 1000 < h then -1 else if 100 ≤ h then 0 else if 10 ≤ h then 1 else 2

theorem iHeatKind_any (h : Int) (w : World) :
    Calls Try.prog 18 #[.int .i64 h] w fun e w' => e = .returned (.int .i64 (heatKind h)) ∧ w = w' := by
  go_enter Try.func18, Try.ntmps18
  by_cases h1 : h < 0
  · go_wp2
    go_ret
    exact ⟨ret_int (by unfold heatKind; (repeat' split) <;> omega), rfl⟩
  by_cases h2 : 1000 < h
  · go_wp2
    go_ret
    exact ⟨ret_int (by unfold heatKind; (repeat' split) <;> omega), rfl⟩
  go_wp2
  all_goals go_ret
  all_goals exact ⟨ret_int (by unfold heatKind; (repeat' split) <;> omega), rfl⟩
theorem sHeatKind_any (h : Int) (w : World) :
    Calls Try.prog 17 #[.int .i64 h] w fun e w' => e = .returned (.int .i64 (heatKind h)) ∧ w = w' := by
  go_enter Try.func17, Try.ntmps17
  by_cases h1 : 0 ≤ h ∧ h ≤ 1000
  · go_wp2_with (go_at_call 40; refine (l1In_t h 0 1000 _ h1).mono ?_; rintro e w' ⟨rfl, rfl⟩)
    all_goals go_ret
    all_goals exact ⟨ret_int (by unfold heatKind; (repeat' split) <;> omega), rfl⟩
  · go_wp2_with (go_at_call 40; refine (l1In_f h 0 1000 _ h1).mono ?_; rintro e w' ⟨rfl, rfl⟩)
    all_goals go_ret
    all_goals exact ⟨ret_int (by unfold heatKind; (repeat' split) <;> omega), rfl⟩
end Go.Proofs.Ytdblfcmmeggpdaa
