/- PageValid and BlockValid, of the program and of the reference. -/
import Derived.Test.YtenbbkmbnpdfaaaVa
import Derived.Test.YtenbbkmbnpdfaaaN
import Derived.Deep.QuietTactic
import Derived.BigQuiet
namespace Go.Proofs.Ytenbbkmbnpdfaaa
open Go.RowKit

theorem bool_dec {b : Bool} {p : Prop} [Decidable p] (h : b = true ↔ p) : b = decide p := by rw [Bool.eq_iff_iff, decide_eq_true_iff]; exact h
abbrev pval (p : Pg) : Value := .agg #[.bool p.full, .int .i64 p.file, .int .i64 p.place, .int .i64 p.value, .int .i64 p.stamp]
abbrev pbox (p : Pg) : Obj := .cells #[.bool p.full, .int .i64 p.file, .int .i64 p.place, .int .i64 p.value, .int .i64 p.stamp] 60
theorem pgOk_no {p : Pg} (h : p.full = false) : PgOk p ↔ p.file = 0 ∧ p.place = 0 ∧ p.value = 0 ∧ p.stamp = 0 := by
  unfold PgOk; rw [h]; simp
theorem pgOk_yes {p : Pg} (h : p.full = true) : PgOk p ↔ (0 ≤ p.file ∧ p.file ≤ 7) ∧ (0 ≤ p.place ∧ p.place ≤ 5) ∧ (0 ≤ p.value ∧ p.value ≤ 9999) ∧ (1 ≤ p.stamp ∧ p.stamp ≤ 1000000) := by
  unfold PgOk; rw [h]; simp
set_option maxRecDepth 100000 in
set_option maxHeartbeats 1000000 in
theorem iPageValid_any (p : Pg) (w : World) :
    Calls Try.prog 82 #[pval p] w fun e w' => e = .returned (.bool (decide (PgOk p))) ∧ Chg NoB w w' := by
  obtain ⟨f, fi, pl, va, st⟩ := p
  cases f
  · go_enter Try.func82, Try.ntmps82
    go_wp2
    all_goals go_ret
    all_goals refine ⟨ret_bool (bool_dec ?_), (Chg.refl _ _).alloc _⟩
    all_goals rw [pgOk_no rfl]
    all_goals simp [*]
  · go_enter Try.func82, Try.ntmps82
    go_wp2
    all_goals go_ret
    all_goals refine ⟨ret_bool (bool_dec ?_), (Chg.refl _ _).alloc _⟩
    all_goals rw [pgOk_yes rfl]
    all_goals (simp <;> omega)
theorem iPageValid_t (p : Pg) (w : World) (h : PgOk p) : Calls Try.prog 82 #[pval p] w fun e w' => e = .returned (.bool true) ∧ Chg NoB w w' :=
  (iPageValid_any p w).mono fun e w' ⟨he, hw⟩ => ⟨by rw [he, decide_eq_true h], hw⟩
theorem iPageValid_f (p : Pg) (w : World) (h : ¬ PgOk p) : Calls Try.prog 82 #[pval p] w fun e w' => e = .returned (.bool false) ∧ Chg NoB w w' :=
  (iPageValid_any p w).mono fun e w' ⟨he, hw⟩ => ⟨by rw [he, decide_eq_false h], hw⟩
set_option maxRecDepth 100000 in
set_option maxHeartbeats 1000000 in
theorem sPageValid_any (p : Pg) (w : World) :
    Calls Try.prog 95 #[pval p] w fun e w' => e = .returned (.bool (decide (PgOk p))) ∧ Chg NoB w w' := by
  obtain ⟨f, fi, pl, va, st⟩ := p
  cases f
  · go_enter Try.func95, Try.ntmps95
    go_wp2
    all_goals go_ret
    all_goals refine ⟨ret_bool (bool_dec ?_), (Chg.refl _ _).alloc _⟩
    all_goals rw [pgOk_no rfl]
    all_goals simp [*]
  · go_enter Try.func95, Try.ntmps95
    go_wp2_with fail
    by_cases h1 : 0 ≤ fi ∧ fi ≤ 7
    case neg =>
      have H := Lib.hid h1
      clear h1
      refine (l1In_f _ _ _ _ H.out).mono ?_
      rintro e w' ⟨rfl, rfl⟩
      go_wp2
      go_ret
      exact ⟨ret_bool (decide_eq_false fun hh => H.out ((pgOk_yes rfl).1 hh).1).symm, (Chg.refl _ _).alloc _⟩
    have H1 := Lib.hid h1
    clear h1
    refine (l1In_t _ _ _ _ H1.out).mono ?_
    rintro e w' ⟨rfl, rfl⟩
    go_wp2_with fail
    by_cases h2 : 0 ≤ pl ∧ pl ≤ 5
    case neg =>
      have H := Lib.hid h2
      clear h2
      refine (l1In_f _ _ _ _ H.out).mono ?_
      rintro e w' ⟨rfl, rfl⟩
      go_wp2
      go_ret
      exact ⟨ret_bool (decide_eq_false fun hh => H.out ((pgOk_yes rfl).1 hh).2.1).symm, (Chg.refl _ _).alloc _⟩
    have H2 := Lib.hid h2
    clear h2
    refine (l1In_t _ _ _ _ H2.out).mono ?_
    rintro e w' ⟨rfl, rfl⟩
    go_wp2_with fail
    by_cases h3 : 0 ≤ va ∧ va ≤ 9999
    case neg =>
      have H := Lib.hid h3
      clear h3
      refine (l1In_f _ _ _ _ H.out).mono ?_
      rintro e w' ⟨rfl, rfl⟩
      go_wp2
      go_ret
      exact ⟨ret_bool (decide_eq_false fun hh => H.out ((pgOk_yes rfl).1 hh).2.2.1).symm, (Chg.refl _ _).alloc _⟩
    have H3 := Lib.hid h3
    clear h3
    refine (l1In_t _ _ _ _ H3.out).mono ?_
    rintro e w' ⟨rfl, rfl⟩
    go_wp2_with fail
    by_cases h4 : 1 ≤ st ∧ st ≤ 1000000
    case neg =>
      have H := Lib.hid h4
      clear h4
      refine (l1In_f _ _ _ _ H.out).mono ?_
      rintro e w' ⟨rfl, rfl⟩
      go_wp2
      go_ret
      exact ⟨ret_bool (decide_eq_false fun hh => H.out ((pgOk_yes rfl).1 hh).2.2.2).symm, (Chg.refl _ _).alloc _⟩
    have H4 := Lib.hid h4
    clear h4
    refine (l1In_t _ _ _ _ H4.out).mono ?_
    rintro e w' ⟨rfl, rfl⟩
    go_wp2
    go_ret
    exact ⟨ret_bool (decide_eq_true ((pgOk_yes rfl).2 ⟨H1.out, H2.out, H3.out, H4.out⟩)).symm, (Chg.refl _ _).alloc _⟩
theorem sPageValid_t (p : Pg) (w : World) (h : PgOk p) : Calls Try.prog 95 #[pval p] w fun e w' => e = .returned (.bool true) ∧ Chg NoB w w' :=
  (sPageValid_any p w).mono fun e w' ⟨he, hw⟩ => ⟨by rw [he, decide_eq_true h], hw⟩
theorem sPageValid_f (p : Pg) (w : World) (h : ¬ PgOk p) : Calls Try.prog 95 #[pval p] w fun e w' => e = .returned (.bool false) ∧ Chg NoB w w' :=
  (sPageValid_any p w).mono fun e w' ⟨he, hw⟩ => ⟨by rw [he, decide_eq_false h], hw⟩
end Go.Proofs.Ytenbbkmbnpdfaaa
