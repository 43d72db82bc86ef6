/- The reference's test of a range. -/
import Derived.Test.YtenbbkmbnpdfaaaDa
namespace Go.Proofs.Ytenbbkmbnpdfaaa
open Go.RowKit

theorem l1In_any (n lo hi : Int) (w : World) :
    Calls Try.prog 56 #[.int .i64 n, .int .i64 lo, .int .i64 hi] w fun e w' => e = .returned (.bool (decide (lo ≤ n ∧ n ≤ hi))) ∧ w = w' := by
  go_enter Try.func56, Try.ntmps56
  by_cases h : lo ≤ n
  all_goals by_cases h2 : n ≤ hi
  all_goals go_wp2
  all_goals go_ret
  all_goals exact ⟨ret_bool (by simp [*]), rfl⟩
theorem l1In_t (n lo hi : Int) (w : World) (h : lo ≤ n ∧ n ≤ hi) :
    Calls Try.prog 56 #[.int .i64 n, .int .i64 lo, .int .i64 hi] w fun e w' => e = .returned (.bool true) ∧ w = w' :=
  (l1In_any n lo hi w).mono fun e w' ⟨he, hw⟩ => ⟨by rw [he, decide_eq_true h], hw⟩
theorem l1In_f (n lo hi : Int) (w : World) (h : ¬ (lo ≤ n ∧ n ≤ hi)) :
    Calls Try.prog 56 #[.int .i64 n, .int .i64 lo, .int .i64 hi] w fun e w' => e = .returned (.bool false) ∧ w = w' :=
  (l1In_any n lo hi w).mono fun e w' ⟨he, hw⟩ => ⟨by rw [he, decide_eq_false h], hw⟩

end Go.Proofs.Ytenbbkmbnpdfaaa
