/- Heads: HeadsValid of the reference. -/
import Derived.Test.YtenbbkmbnpdfaaaVj
namespace Go.Proofs.Ytenbbkmbnpdfaaa
open Go.RowKit
set_option maxRecDepth 100000 in
set_option maxHeartbeats 4000000 in
theorem sHeadsValid_any (F : Nat → Prop) (A : Option Addr) (c : Nat) (D : List Bk) (h : Hd) (w : World) (hr : DevR F w A D) (hs : Small D) :
    Calls Try.prog 66 #[.slice A D.length c, hval h] w fun e w' => e = .returned (.bool (decide (HeadsOk D h))) ∧ Chg NoB w w' := by
  obtain ⟨x, y, z⟩ := h
  have hlen := hs.1
  have HS := Lib.hid hs
  have HR := Lib.hid hr
  clear hs hr
  by_cases xr : -1 ≤ x ∧ x ≤ (D.length : Int) - 1
  case neg =>
    have XR := Lib.hid xr
    clear xr
    have HO : Hid (¬ HdOk D.length ⟨x, y, z⟩) := Lib.hid (fun hh => by obtain ⟨⟨p1, p2⟩, ⟨p3, p4⟩, ⟨p5, p6⟩, p7, p8, p9⟩ := hh; simp only at p1 p2 p3 p4 p5 p6 p7 p8 p9; have := XR.out; omega)
    go_enter Try.func66, Try.ntmps66
    go_wp2_with (first | (go_at_call 56; (with_reducible refine (l1In_f x _ _ _ XR.out).mono ?_); rintro e w' ⟨rfl, rfl⟩))
    refine wp_loop_rounds 4 ?_
    repeat (first | (refine one_round ?_; go_wp2_with (first | (go_at_call 56; (with_reducible refine (l1In_f x _ _ _ XR.out).mono ?_); rintro e w' ⟨rfl, rfl⟩))) | (refine wp_loop_rounds 3 ?_; refine one_round ?_; go_wp2_with (first | (go_at_call 56; (with_reducible refine (l1In_f x _ _ _ XR.out).mono ?_); rintro e w' ⟨rfl, rfl⟩))) | (go_quiet (fail); go_wp2_with (first | (go_at_call 56; (with_reducible refine (l1In_f x _ _ _ XR.out).mono ?_); rintro e w' ⟨rfl, rfl⟩))))
    go_ret
    exact ⟨ret_bool (decide_eq_false fun hh => HO.out hh.2).symm, (by repeat (first | exact Chg.refl _ _ | refine Chg.drewN ?_ _ | refine Chg.drew ?_ | refine Chg.alloc ?_ _))⟩
  have XR := Lib.hid xr
  clear xr
  by_cases yr : -1 ≤ y ∧ y ≤ (D.length : Int) - 1
  case neg =>
    have YR := Lib.hid yr
    clear yr
    have HO : Hid (¬ HdOk D.length ⟨x, y, z⟩) := Lib.hid (fun hh => by obtain ⟨⟨p1, p2⟩, ⟨p3, p4⟩, ⟨p5, p6⟩, p7, p8, p9⟩ := hh; simp only at p1 p2 p3 p4 p5 p6 p7 p8 p9; have := XR.out; have := YR.out; omega)
    go_enter Try.func66, Try.ntmps66
    go_wp2_with (first | (go_at_call 56; (with_reducible refine (l1In_t x _ _ _ XR.out).mono ?_); rintro e w' ⟨rfl, rfl⟩) | (go_at_call 56; (with_reducible refine (l1In_f y _ _ _ YR.out).mono ?_); rintro e w' ⟨rfl, rfl⟩))
    refine wp_loop_rounds 4 ?_
    repeat (first | (refine one_round ?_; go_wp2_with (first | (go_at_call 56; (with_reducible refine (l1In_t x _ _ _ XR.out).mono ?_); rintro e w' ⟨rfl, rfl⟩) | (go_at_call 56; (with_reducible refine (l1In_f y _ _ _ YR.out).mono ?_); rintro e w' ⟨rfl, rfl⟩))) | (refine wp_loop_rounds 3 ?_; refine one_round ?_; go_wp2_with (first | (go_at_call 56; (with_reducible refine (l1In_t x _ _ _ XR.out).mono ?_); rintro e w' ⟨rfl, rfl⟩) | (go_at_call 56; (with_reducible refine (l1In_f y _ _ _ YR.out).mono ?_); rintro e w' ⟨rfl, rfl⟩))) | (go_quiet (fail); go_wp2_with (first | (go_at_call 56; (with_reducible refine (l1In_t x _ _ _ XR.out).mono ?_); rintro e w' ⟨rfl, rfl⟩) | (go_at_call 56; (with_reducible refine (l1In_f y _ _ _ YR.out).mono ?_); rintro e w' ⟨rfl, rfl⟩))))
    go_ret
    exact ⟨ret_bool (decide_eq_false fun hh => HO.out hh.2).symm, (by repeat (first | exact Chg.refl _ _ | refine Chg.drewN ?_ _ | refine Chg.drew ?_ | refine Chg.alloc ?_ _))⟩
  have YR := Lib.hid yr
  clear yr
  by_cases b : x = y
  case pos =>
    have b' : (x == y) = true := by simpa using b
    by_cases bn : 0 ≤ y
    case pos =>
      have HO : Hid (¬ HdOk D.length ⟨x, y, z⟩) := Lib.hid (fun hh => by obtain ⟨⟨p1, p2⟩, ⟨p3, p4⟩, ⟨p5, p6⟩, p7, p8, p9⟩ := hh; simp only at p1 p2 p3 p4 p5 p6 p7 p8 p9; have := XR.out; have := YR.out; omega)
      clear b
      go_enter Try.func66, Try.ntmps66
      go_wp2_with (first | (go_at_call 56; (with_reducible refine (l1In_t x _ _ _ XR.out).mono ?_); rintro e w' ⟨rfl, rfl⟩) | (go_at_call 56; (with_reducible refine (l1In_t y _ _ _ YR.out).mono ?_); rintro e w' ⟨rfl, rfl⟩))
      refine wp_loop_rounds 4 ?_
      repeat (first | (refine one_round ?_; go_wp2_with (first | (go_at_call 56; (with_reducible refine (l1In_t x _ _ _ XR.out).mono ?_); rintro e w' ⟨rfl, rfl⟩) | (go_at_call 56; (with_reducible refine (l1In_t y _ _ _ YR.out).mono ?_); rintro e w' ⟨rfl, rfl⟩))) | (refine wp_loop_rounds 3 ?_; refine one_round ?_; go_wp2_with (first | (go_at_call 56; (with_reducible refine (l1In_t x _ _ _ XR.out).mono ?_); rintro e w' ⟨rfl, rfl⟩) | (go_at_call 56; (with_reducible refine (l1In_t y _ _ _ YR.out).mono ?_); rintro e w' ⟨rfl, rfl⟩))) | (go_quiet (fail); go_wp2_with (first | (go_at_call 56; (with_reducible refine (l1In_t x _ _ _ XR.out).mono ?_); rintro e w' ⟨rfl, rfl⟩) | (go_at_call 56; (with_reducible refine (l1In_t y _ _ _ YR.out).mono ?_); rintro e w' ⟨rfl, rfl⟩))))
      go_ret
      exact ⟨ret_bool (decide_eq_false fun hh => HO.out hh.2).symm, (by repeat (first | exact Chg.refl _ _ | refine Chg.drewN ?_ _ | refine Chg.drew ?_ | refine Chg.alloc ?_ _))⟩
    clear b
    by_cases zr : -1 ≤ z ∧ z ≤ (D.length : Int) - 1
    case neg =>
      have ZR := Lib.hid zr
      clear zr
      have HO : Hid (¬ HdOk D.length ⟨x, y, z⟩) := Lib.hid (fun hh => by obtain ⟨⟨p1, p2⟩, ⟨p3, p4⟩, ⟨p5, p6⟩, p7, p8, p9⟩ := hh; simp only at p1 p2 p3 p4 p5 p6 p7 p8 p9; have := XR.out; have := YR.out; have := ZR.out; omega)
      go_enter Try.func66, Try.ntmps66
      go_wp2_with (first | (go_at_call 56; (with_reducible refine (l1In_t x _ _ _ XR.out).mono ?_); rintro e w' ⟨rfl, rfl⟩) | (go_at_call 56; (with_reducible refine (l1In_t y _ _ _ YR.out).mono ?_); rintro e w' ⟨rfl, rfl⟩) | (go_at_call 56; (with_reducible refine (l1In_f z _ _ _ ZR.out).mono ?_); rintro e w' ⟨rfl, rfl⟩))
      refine wp_loop_rounds 4 ?_
      repeat (first | (refine one_round ?_; go_wp2_with (first | (go_at_call 56; (with_reducible refine (l1In_t x _ _ _ XR.out).mono ?_); rintro e w' ⟨rfl, rfl⟩) | (go_at_call 56; (with_reducible refine (l1In_t y _ _ _ YR.out).mono ?_); rintro e w' ⟨rfl, rfl⟩) | (go_at_call 56; (with_reducible refine (l1In_f z _ _ _ ZR.out).mono ?_); rintro e w' ⟨rfl, rfl⟩))) | (refine wp_loop_rounds 3 ?_; refine one_round ?_; go_wp2_with (first | (go_at_call 56; (with_reducible refine (l1In_t x _ _ _ XR.out).mono ?_); rintro e w' ⟨rfl, rfl⟩) | (go_at_call 56; (with_reducible refine (l1In_t y _ _ _ YR.out).mono ?_); rintro e w' ⟨rfl, rfl⟩) | (go_at_call 56; (with_reducible refine (l1In_f z _ _ _ ZR.out).mono ?_); rintro e w' ⟨rfl, rfl⟩))) | (go_quiet (fail); go_wp2_with (first | (go_at_call 56; (with_reducible refine (l1In_t x _ _ _ XR.out).mono ?_); rintro e w' ⟨rfl, rfl⟩) | (go_at_call 56; (with_reducible refine (l1In_t y _ _ _ YR.out).mono ?_); rintro e w' ⟨rfl, rfl⟩) | (go_at_call 56; (with_reducible refine (l1In_f z _ _ _ ZR.out).mono ?_); rintro e w' ⟨rfl, rfl⟩))))
      go_ret
      exact ⟨ret_bool (decide_eq_false fun hh => HO.out hh.2).symm, (by repeat (first | exact Chg.refl _ _ | refine Chg.drewN ?_ _ | refine Chg.drew ?_ | refine Chg.alloc ?_ _))⟩
    have ZR := Lib.hid zr
    clear zr
    by_cases c : x = z
    case pos =>
      have c' : (x == z) = true := by simpa using c
      by_cases cn : 0 ≤ z
      case pos =>
        have HO : Hid (¬ HdOk D.length ⟨x, y, z⟩) := Lib.hid (fun hh => by obtain ⟨⟨p1, p2⟩, ⟨p3, p4⟩, ⟨p5, p6⟩, p7, p8, p9⟩ := hh; simp only at p1 p2 p3 p4 p5 p6 p7 p8 p9; have := XR.out; have := YR.out; have := ZR.out; omega)
        clear c
        go_enter Try.func66, Try.ntmps66
        go_wp2_with (first | (go_at_call 56; (with_reducible refine (l1In_t x _ _ _ XR.out).mono ?_); rintro e w' ⟨rfl, rfl⟩) | (go_at_call 56; (with_reducible refine (l1In_t y _ _ _ YR.out).mono ?_); rintro e w' ⟨rfl, rfl⟩) | (go_at_call 56; (with_reducible refine (l1In_t z _ _ _ ZR.out).mono ?_); rintro e w' ⟨rfl, rfl⟩))
        refine wp_loop_rounds 4 ?_
        repeat (first | (refine one_round ?_; go_wp2_with (first | (go_at_call 56; (with_reducible refine (l1In_t x _ _ _ XR.out).mono ?_); rintro e w' ⟨rfl, rfl⟩) | (go_at_call 56; (with_reducible refine (l1In_t y _ _ _ YR.out).mono ?_); rintro e w' ⟨rfl, rfl⟩) | (go_at_call 56; (with_reducible refine (l1In_t z _ _ _ ZR.out).mono ?_); rintro e w' ⟨rfl, rfl⟩))) | (refine wp_loop_rounds 3 ?_; refine one_round ?_; go_wp2_with (first | (go_at_call 56; (with_reducible refine (l1In_t x _ _ _ XR.out).mono ?_); rintro e w' ⟨rfl, rfl⟩) | (go_at_call 56; (with_reducible refine (l1In_t y _ _ _ YR.out).mono ?_); rintro e w' ⟨rfl, rfl⟩) | (go_at_call 56; (with_reducible refine (l1In_t z _ _ _ ZR.out).mono ?_); rintro e w' ⟨rfl, rfl⟩))) | (go_quiet (fail); go_wp2_with (first | (go_at_call 56; (with_reducible refine (l1In_t x _ _ _ XR.out).mono ?_); rintro e w' ⟨rfl, rfl⟩) | (go_at_call 56; (with_reducible refine (l1In_t y _ _ _ YR.out).mono ?_); rintro e w' ⟨rfl, rfl⟩) | (go_at_call 56; (with_reducible refine (l1In_t z _ _ _ ZR.out).mono ?_); rintro e w' ⟨rfl, rfl⟩))))
        go_ret
        exact ⟨ret_bool (decide_eq_false fun hh => HO.out hh.2).symm, (by repeat (first | exact Chg.refl _ _ | refine Chg.drewN ?_ _ | refine Chg.drew ?_ | refine Chg.alloc ?_ _))⟩
      clear c
      by_cases d : y = z
      case pos =>
        have d' : (y == z) = true := by simpa using d
        by_cases dn : 0 ≤ z
        case pos => exact absurd dn cn
        clear d
        have HO : Hid (HdOk D.length ⟨x, y, z⟩) := Lib.hid ⟨by have := XR.out; simp only; omega, by have := YR.out; simp only; omega, by have := ZR.out; simp only; omega, fun h => absurd h bn, fun h => absurd h cn, fun h => absurd h dn⟩
        go_enter Try.func66, Try.ntmps66
        go_wp2_with (first | (go_at_call 56; (with_reducible refine (l1In_t x _ _ _ XR.out).mono ?_); rintro e w' ⟨rfl, rfl⟩) | (go_at_call 56; (with_reducible refine (l1In_t y _ _ _ YR.out).mono ?_); rintro e w' ⟨rfl, rfl⟩) | (go_at_call 56; (with_reducible refine (l1In_t z _ _ _ ZR.out).mono ?_); rintro e w' ⟨rfl, rfl⟩))
        refine wp_loop_rounds 4 ?_
        repeat (first | (refine one_round ?_; go_wp2_with (first | (go_at_call 56; (with_reducible refine (l1In_t x _ _ _ XR.out).mono ?_); rintro e w' ⟨rfl, rfl⟩) | (go_at_call 56; (with_reducible refine (l1In_t y _ _ _ YR.out).mono ?_); rintro e w' ⟨rfl, rfl⟩) | (go_at_call 56; (with_reducible refine (l1In_t z _ _ _ ZR.out).mono ?_); rintro e w' ⟨rfl, rfl⟩))) | (refine wp_loop_rounds 3 ?_; refine one_round ?_; go_wp2_with (first | (go_at_call 56; (with_reducible refine (l1In_t x _ _ _ XR.out).mono ?_); rintro e w' ⟨rfl, rfl⟩) | (go_at_call 56; (with_reducible refine (l1In_t y _ _ _ YR.out).mono ?_); rintro e w' ⟨rfl, rfl⟩) | (go_at_call 56; (with_reducible refine (l1In_t z _ _ _ ZR.out).mono ?_); rintro e w' ⟨rfl, rfl⟩))) | (go_quiet (fail); go_wp2_with (first | (go_at_call 56; (with_reducible refine (l1In_t x _ _ _ XR.out).mono ?_); rintro e w' ⟨rfl, rfl⟩) | (go_at_call 56; (with_reducible refine (l1In_t y _ _ _ YR.out).mono ?_); rintro e w' ⟨rfl, rfl⟩) | (go_at_call 56; (with_reducible refine (l1In_t z _ _ _ ZR.out).mono ?_); rintro e w' ⟨rfl, rfl⟩))))
        refine (sDeviceValid_any _ A c D _ (HR.out.new (by repeat (first | exact Chg.refl _ _ | refine Chg.drewN ?_ _ | refine Chg.drew ?_ | refine Chg.alloc ?_ _))) HS.out).mono ?_
        rintro e w2 ⟨rfl, hc2⟩
        have HC2 := Lib.hid (show Chg NoB w w2 from Chg.trans (by repeat (first | exact Chg.refl _ _ | refine Chg.drewN ?_ _ | refine Chg.drew ?_ | refine Chg.alloc ?_ _)) hc2)
        clear hc2
        go_wp2
        go_ret
        exact ⟨ret_bool (bool_dec (by rw [decide_eq_true_iff]; exact ⟨fun hh => ⟨hh, HO.out⟩, fun hh => hh.1⟩)), HC2.out⟩
      have d' : (y == z) = false := by simpa using d
      have DH := Lib.hid d
      clear d
      have HO : Hid (HdOk D.length ⟨x, y, z⟩) := Lib.hid ⟨by have := XR.out; simp only; omega, by have := YR.out; simp only; omega, by have := ZR.out; simp only; omega, fun h => absurd h bn, fun h => absurd h cn, fun _ h => DH.out h.symm⟩
      go_enter Try.func66, Try.ntmps66
      go_wp2_with (first | (go_at_call 56; (with_reducible refine (l1In_t x _ _ _ XR.out).mono ?_); rintro e w' ⟨rfl, rfl⟩) | (go_at_call 56; (with_reducible refine (l1In_t y _ _ _ YR.out).mono ?_); rintro e w' ⟨rfl, rfl⟩) | (go_at_call 56; (with_reducible refine (l1In_t z _ _ _ ZR.out).mono ?_); rintro e w' ⟨rfl, rfl⟩))
      refine wp_loop_rounds 4 ?_
      repeat (first | (refine one_round ?_; go_wp2_with (first | (go_at_call 56; (with_reducible refine (l1In_t x _ _ _ XR.out).mono ?_); rintro e w' ⟨rfl, rfl⟩) | (go_at_call 56; (with_reducible refine (l1In_t y _ _ _ YR.out).mono ?_); rintro e w' ⟨rfl, rfl⟩) | (go_at_call 56; (with_reducible refine (l1In_t z _ _ _ ZR.out).mono ?_); rintro e w' ⟨rfl, rfl⟩))) | (refine wp_loop_rounds 3 ?_; refine one_round ?_; go_wp2_with (first | (go_at_call 56; (with_reducible refine (l1In_t x _ _ _ XR.out).mono ?_); rintro e w' ⟨rfl, rfl⟩) | (go_at_call 56; (with_reducible refine (l1In_t y _ _ _ YR.out).mono ?_); rintro e w' ⟨rfl, rfl⟩) | (go_at_call 56; (with_reducible refine (l1In_t z _ _ _ ZR.out).mono ?_); rintro e w' ⟨rfl, rfl⟩))) | (go_quiet (fail); go_wp2_with (first | (go_at_call 56; (with_reducible refine (l1In_t x _ _ _ XR.out).mono ?_); rintro e w' ⟨rfl, rfl⟩) | (go_at_call 56; (with_reducible refine (l1In_t y _ _ _ YR.out).mono ?_); rintro e w' ⟨rfl, rfl⟩) | (go_at_call 56; (with_reducible refine (l1In_t z _ _ _ ZR.out).mono ?_); rintro e w' ⟨rfl, rfl⟩))))
      refine (sDeviceValid_any _ A c D _ (HR.out.new (by repeat (first | exact Chg.refl _ _ | refine Chg.drewN ?_ _ | refine Chg.drew ?_ | refine Chg.alloc ?_ _))) HS.out).mono ?_
      rintro e w2 ⟨rfl, hc2⟩
      have HC2 := Lib.hid (show Chg NoB w w2 from Chg.trans (by repeat (first | exact Chg.refl _ _ | refine Chg.drewN ?_ _ | refine Chg.drew ?_ | refine Chg.alloc ?_ _)) hc2)
      clear hc2
      go_wp2
      go_ret
      exact ⟨ret_bool (bool_dec (by rw [decide_eq_true_iff]; exact ⟨fun hh => ⟨hh, HO.out⟩, fun hh => hh.1⟩)), HC2.out⟩
    have c' : (x == z) = false := by simpa using c
    have CH := Lib.hid c
    clear c
    by_cases d : y = z
    case pos =>
      have d' : (y == z) = true := by simpa using d
      by_cases dn : 0 ≤ z
      case pos =>
        have HO : Hid (¬ HdOk D.length ⟨x, y, z⟩) := Lib.hid (fun hh => by obtain ⟨⟨p1, p2⟩, ⟨p3, p4⟩, ⟨p5, p6⟩, p7, p8, p9⟩ := hh; simp only at p1 p2 p3 p4 p5 p6 p7 p8 p9; have := XR.out; have := YR.out; have := ZR.out; omega)
        clear d
        go_enter Try.func66, Try.ntmps66
        go_wp2_with (first | (go_at_call 56; (with_reducible refine (l1In_t x _ _ _ XR.out).mono ?_); rintro e w' ⟨rfl, rfl⟩) | (go_at_call 56; (with_reducible refine (l1In_t y _ _ _ YR.out).mono ?_); rintro e w' ⟨rfl, rfl⟩) | (go_at_call 56; (with_reducible refine (l1In_t z _ _ _ ZR.out).mono ?_); rintro e w' ⟨rfl, rfl⟩))
        refine wp_loop_rounds 4 ?_
        repeat (first | (refine one_round ?_; go_wp2_with (first | (go_at_call 56; (with_reducible refine (l1In_t x _ _ _ XR.out).mono ?_); rintro e w' ⟨rfl, rfl⟩) | (go_at_call 56; (with_reducible refine (l1In_t y _ _ _ YR.out).mono ?_); rintro e w' ⟨rfl, rfl⟩) | (go_at_call 56; (with_reducible refine (l1In_t z _ _ _ ZR.out).mono ?_); rintro e w' ⟨rfl, rfl⟩))) | (refine wp_loop_rounds 3 ?_; refine one_round ?_; go_wp2_with (first | (go_at_call 56; (with_reducible refine (l1In_t x _ _ _ XR.out).mono ?_); rintro e w' ⟨rfl, rfl⟩) | (go_at_call 56; (with_reducible refine (l1In_t y _ _ _ YR.out).mono ?_); rintro e w' ⟨rfl, rfl⟩) | (go_at_call 56; (with_reducible refine (l1In_t z _ _ _ ZR.out).mono ?_); rintro e w' ⟨rfl, rfl⟩))) | (go_quiet (fail); go_wp2_with (first | (go_at_call 56; (with_reducible refine (l1In_t x _ _ _ XR.out).mono ?_); rintro e w' ⟨rfl, rfl⟩) | (go_at_call 56; (with_reducible refine (l1In_t y _ _ _ YR.out).mono ?_); rintro e w' ⟨rfl, rfl⟩) | (go_at_call 56; (with_reducible refine (l1In_t z _ _ _ ZR.out).mono ?_); rintro e w' ⟨rfl, rfl⟩))))
        go_ret
        exact ⟨ret_bool (decide_eq_false fun hh => HO.out hh.2).symm, (by repeat (first | exact Chg.refl _ _ | refine Chg.drewN ?_ _ | refine Chg.drew ?_ | refine Chg.alloc ?_ _))⟩
      clear d
      have HO : Hid (HdOk D.length ⟨x, y, z⟩) := Lib.hid ⟨by have := XR.out; simp only; omega, by have := YR.out; simp only; omega, by have := ZR.out; simp only; omega, fun h => absurd h bn, fun _ h => CH.out h.symm, fun h => absurd h dn⟩
      go_enter Try.func66, Try.ntmps66
      go_wp2_with (first | (go_at_call 56; (with_reducible refine (l1In_t x _ _ _ XR.out).mono ?_); rintro e w' ⟨rfl, rfl⟩) | (go_at_call 56; (with_reducible refine (l1In_t y _ _ _ YR.out).mono ?_); rintro e w' ⟨rfl, rfl⟩) | (go_at_call 56; (with_reducible refine (l1In_t z _ _ _ ZR.out).mono ?_); rintro e w' ⟨rfl, rfl⟩))
      refine wp_loop_rounds 4 ?_
      repeat (first | (refine one_round ?_; go_wp2_with (first | (go_at_call 56; (with_reducible refine (l1In_t x _ _ _ XR.out).mono ?_); rintro e w' ⟨rfl, rfl⟩) | (go_at_call 56; (with_reducible refine (l1In_t y _ _ _ YR.out).mono ?_); rintro e w' ⟨rfl, rfl⟩) | (go_at_call 56; (with_reducible refine (l1In_t z _ _ _ ZR.out).mono ?_); rintro e w' ⟨rfl, rfl⟩))) | (refine wp_loop_rounds 3 ?_; refine one_round ?_; go_wp2_with (first | (go_at_call 56; (with_reducible refine (l1In_t x _ _ _ XR.out).mono ?_); rintro e w' ⟨rfl, rfl⟩) | (go_at_call 56; (with_reducible refine (l1In_t y _ _ _ YR.out).mono ?_); rintro e w' ⟨rfl, rfl⟩) | (go_at_call 56; (with_reducible refine (l1In_t z _ _ _ ZR.out).mono ?_); rintro e w' ⟨rfl, rfl⟩))) | (go_quiet (fail); go_wp2_with (first | (go_at_call 56; (with_reducible refine (l1In_t x _ _ _ XR.out).mono ?_); rintro e w' ⟨rfl, rfl⟩) | (go_at_call 56; (with_reducible refine (l1In_t y _ _ _ YR.out).mono ?_); rintro e w' ⟨rfl, rfl⟩) | (go_at_call 56; (with_reducible refine (l1In_t z _ _ _ ZR.out).mono ?_); rintro e w' ⟨rfl, rfl⟩))))
      refine (sDeviceValid_any _ A c D _ (HR.out.new (by repeat (first | exact Chg.refl _ _ | refine Chg.drewN ?_ _ | refine Chg.drew ?_ | refine Chg.alloc ?_ _))) HS.out).mono ?_
      rintro e w2 ⟨rfl, hc2⟩
      have HC2 := Lib.hid (show Chg NoB w w2 from Chg.trans (by repeat (first | exact Chg.refl _ _ | refine Chg.drewN ?_ _ | refine Chg.drew ?_ | refine Chg.alloc ?_ _)) hc2)
      clear hc2
      go_wp2
      go_ret
      exact ⟨ret_bool (bool_dec (by rw [decide_eq_true_iff]; exact ⟨fun hh => ⟨hh, HO.out⟩, fun hh => hh.1⟩)), HC2.out⟩
    have d' : (y == z) = false := by simpa using d
    have DH := Lib.hid d
    clear d
    have HO : Hid (HdOk D.length ⟨x, y, z⟩) := Lib.hid ⟨by have := XR.out; simp only; omega, by have := YR.out; simp only; omega, by have := ZR.out; simp only; omega, fun h => absurd h bn, fun _ h => CH.out h.symm, fun _ h => DH.out h.symm⟩
    go_enter Try.func66, Try.ntmps66
    go_wp2_with (first | (go_at_call 56; (with_reducible refine (l1In_t x _ _ _ XR.out).mono ?_); rintro e w' ⟨rfl, rfl⟩) | (go_at_call 56; (with_reducible refine (l1In_t y _ _ _ YR.out).mono ?_); rintro e w' ⟨rfl, rfl⟩) | (go_at_call 56; (with_reducible refine (l1In_t z _ _ _ ZR.out).mono ?_); rintro e w' ⟨rfl, rfl⟩))
    refine wp_loop_rounds 4 ?_
    repeat (first | (refine one_round ?_; go_wp2_with (first | (go_at_call 56; (with_reducible refine (l1In_t x _ _ _ XR.out).mono ?_); rintro e w' ⟨rfl, rfl⟩) | (go_at_call 56; (with_reducible refine (l1In_t y _ _ _ YR.out).mono ?_); rintro e w' ⟨rfl, rfl⟩) | (go_at_call 56; (with_reducible refine (l1In_t z _ _ _ ZR.out).mono ?_); rintro e w' ⟨rfl, rfl⟩))) | (refine wp_loop_rounds 3 ?_; refine one_round ?_; go_wp2_with (first | (go_at_call 56; (with_reducible refine (l1In_t x _ _ _ XR.out).mono ?_); rintro e w' ⟨rfl, rfl⟩) | (go_at_call 56; (with_reducible refine (l1In_t y _ _ _ YR.out).mono ?_); rintro e w' ⟨rfl, rfl⟩) | (go_at_call 56; (with_reducible refine (l1In_t z _ _ _ ZR.out).mono ?_); rintro e w' ⟨rfl, rfl⟩))) | (go_quiet (fail); go_wp2_with (first | (go_at_call 56; (with_reducible refine (l1In_t x _ _ _ XR.out).mono ?_); rintro e w' ⟨rfl, rfl⟩) | (go_at_call 56; (with_reducible refine (l1In_t y _ _ _ YR.out).mono ?_); rintro e w' ⟨rfl, rfl⟩) | (go_at_call 56; (with_reducible refine (l1In_t z _ _ _ ZR.out).mono ?_); rintro e w' ⟨rfl, rfl⟩))))
    refine (sDeviceValid_any _ A c D _ (HR.out.new (by repeat (first | exact Chg.refl _ _ | refine Chg.drewN ?_ _ | refine Chg.drew ?_ | refine Chg.alloc ?_ _))) HS.out).mono ?_
    rintro e w2 ⟨rfl, hc2⟩
    have HC2 := Lib.hid (show Chg NoB w w2 from Chg.trans (by repeat (first | exact Chg.refl _ _ | refine Chg.drewN ?_ _ | refine Chg.drew ?_ | refine Chg.alloc ?_ _)) hc2)
    clear hc2
    go_wp2
    go_ret
    exact ⟨ret_bool (bool_dec (by rw [decide_eq_true_iff]; exact ⟨fun hh => ⟨hh, HO.out⟩, fun hh => hh.1⟩)), HC2.out⟩
  have b' : (x == y) = false := by simpa using b
  have BH := Lib.hid b
  clear b
  by_cases zr : -1 ≤ z ∧ z ≤ (D.length : Int) - 1
  case neg =>
    have ZR := Lib.hid zr
    clear zr
    have HO : Hid (¬ HdOk D.length ⟨x, y, z⟩) := Lib.hid (fun hh => by obtain ⟨⟨p1, p2⟩, ⟨p3, p4⟩, ⟨p5, p6⟩, p7, p8, p9⟩ := hh; simp only at p1 p2 p3 p4 p5 p6 p7 p8 p9; have := XR.out; have := YR.out; have := ZR.out; omega)
    go_enter Try.func66, Try.ntmps66
    go_wp2_with (first | (go_at_call 56; (with_reducible refine (l1In_t x _ _ _ XR.out).mono ?_); rintro e w' ⟨rfl, rfl⟩) | (go_at_call 56; (with_reducible refine (l1In_t y _ _ _ YR.out).mono ?_); rintro e w' ⟨rfl, rfl⟩) | (go_at_call 56; (with_reducible refine (l1In_f z _ _ _ ZR.out).mono ?_); rintro e w' ⟨rfl, rfl⟩))
    refine wp_loop_rounds 4 ?_
    repeat (first | (refine one_round ?_; go_wp2_with (first | (go_at_call 56; (with_reducible refine (l1In_t x _ _ _ XR.out).mono ?_); rintro e w' ⟨rfl, rfl⟩) | (go_at_call 56; (with_reducible refine (l1In_t y _ _ _ YR.out).mono ?_); rintro e w' ⟨rfl, rfl⟩) | (go_at_call 56; (with_reducible refine (l1In_f z _ _ _ ZR.out).mono ?_); rintro e w' ⟨rfl, rfl⟩))) | (refine wp_loop_rounds 3 ?_; refine one_round ?_; go_wp2_with (first | (go_at_call 56; (with_reducible refine (l1In_t x _ _ _ XR.out).mono ?_); rintro e w' ⟨rfl, rfl⟩) | (go_at_call 56; (with_reducible refine (l1In_t y _ _ _ YR.out).mono ?_); rintro e w' ⟨rfl, rfl⟩) | (go_at_call 56; (with_reducible refine (l1In_f z _ _ _ ZR.out).mono ?_); rintro e w' ⟨rfl, rfl⟩))) | (go_quiet (fail); go_wp2_with (first | (go_at_call 56; (with_reducible refine (l1In_t x _ _ _ XR.out).mono ?_); rintro e w' ⟨rfl, rfl⟩) | (go_at_call 56; (with_reducible refine (l1In_t y _ _ _ YR.out).mono ?_); rintro e w' ⟨rfl, rfl⟩) | (go_at_call 56; (with_reducible refine (l1In_f z _ _ _ ZR.out).mono ?_); rintro e w' ⟨rfl, rfl⟩))))
    go_ret
    exact ⟨ret_bool (decide_eq_false fun hh => HO.out hh.2).symm, (by repeat (first | exact Chg.refl _ _ | refine Chg.drewN ?_ _ | refine Chg.drew ?_ | refine Chg.alloc ?_ _))⟩
  have ZR := Lib.hid zr
  clear zr
  by_cases c : x = z
  case pos =>
    have c' : (x == z) = true := by simpa using c
    by_cases cn : 0 ≤ z
    case pos =>
      have HO : Hid (¬ HdOk D.length ⟨x, y, z⟩) := Lib.hid (fun hh => by obtain ⟨⟨p1, p2⟩, ⟨p3, p4⟩, ⟨p5, p6⟩, p7, p8, p9⟩ := hh; simp only at p1 p2 p3 p4 p5 p6 p7 p8 p9; have := XR.out; have := YR.out; have := ZR.out; omega)
      clear c
      go_enter Try.func66, Try.ntmps66
      go_wp2_with (first | (go_at_call 56; (with_reducible refine (l1In_t x _ _ _ XR.out).mono ?_); rintro e w' ⟨rfl, rfl⟩) | (go_at_call 56; (with_reducible refine (l1In_t y _ _ _ YR.out).mono ?_); rintro e w' ⟨rfl, rfl⟩) | (go_at_call 56; (with_reducible refine (l1In_t z _ _ _ ZR.out).mono ?_); rintro e w' ⟨rfl, rfl⟩))
      refine wp_loop_rounds 4 ?_
      repeat (first | (refine one_round ?_; go_wp2_with (first | (go_at_call 56; (with_reducible refine (l1In_t x _ _ _ XR.out).mono ?_); rintro e w' ⟨rfl, rfl⟩) | (go_at_call 56; (with_reducible refine (l1In_t y _ _ _ YR.out).mono ?_); rintro e w' ⟨rfl, rfl⟩) | (go_at_call 56; (with_reducible refine (l1In_t z _ _ _ ZR.out).mono ?_); rintro e w' ⟨rfl, rfl⟩))) | (refine wp_loop_rounds 3 ?_; refine one_round ?_; go_wp2_with (first | (go_at_call 56; (with_reducible refine (l1In_t x _ _ _ XR.out).mono ?_); rintro e w' ⟨rfl, rfl⟩) | (go_at_call 56; (with_reducible refine (l1In_t y _ _ _ YR.out).mono ?_); rintro e w' ⟨rfl, rfl⟩) | (go_at_call 56; (with_reducible refine (l1In_t z _ _ _ ZR.out).mono ?_); rintro e w' ⟨rfl, rfl⟩))) | (go_quiet (fail); go_wp2_with (first | (go_at_call 56; (with_reducible refine (l1In_t x _ _ _ XR.out).mono ?_); rintro e w' ⟨rfl, rfl⟩) | (go_at_call 56; (with_reducible refine (l1In_t y _ _ _ YR.out).mono ?_); rintro e w' ⟨rfl, rfl⟩) | (go_at_call 56; (with_reducible refine (l1In_t z _ _ _ ZR.out).mono ?_); rintro e w' ⟨rfl, rfl⟩))))
      go_ret
      exact ⟨ret_bool (decide_eq_false fun hh => HO.out hh.2).symm, (by repeat (first | exact Chg.refl _ _ | refine Chg.drewN ?_ _ | refine Chg.drew ?_ | refine Chg.alloc ?_ _))⟩
    clear c
    by_cases d : y = z
    case pos =>
      have d' : (y == z) = true := by simpa using d
      by_cases dn : 0 ≤ z
      case pos => exact absurd dn cn
      clear d
      have HO : Hid (HdOk D.length ⟨x, y, z⟩) := Lib.hid ⟨by have := XR.out; simp only; omega, by have := YR.out; simp only; omega, by have := ZR.out; simp only; omega, fun _ h => BH.out h.symm, fun h => absurd h cn, fun h => absurd h dn⟩
      go_enter Try.func66, Try.ntmps66
      go_wp2_with (first | (go_at_call 56; (with_reducible refine (l1In_t x _ _ _ XR.out).mono ?_); rintro e w' ⟨rfl, rfl⟩) | (go_at_call 56; (with_reducible refine (l1In_t y _ _ _ YR.out).mono ?_); rintro e w' ⟨rfl, rfl⟩) | (go_at_call 56; (with_reducible refine (l1In_t z _ _ _ ZR.out).mono ?_); rintro e w' ⟨rfl, rfl⟩))
      refine wp_loop_rounds 4 ?_
      repeat (first | (refine one_round ?_; go_wp2_with (first | (go_at_call 56; (with_reducible refine (l1In_t x _ _ _ XR.out).mono ?_); rintro e w' ⟨rfl, rfl⟩) | (go_at_call 56; (with_reducible refine (l1In_t y _ _ _ YR.out).mono ?_); rintro e w' ⟨rfl, rfl⟩) | (go_at_call 56; (with_reducible refine (l1In_t z _ _ _ ZR.out).mono ?_); rintro e w' ⟨rfl, rfl⟩))) | (refine wp_loop_rounds 3 ?_; refine one_round ?_; go_wp2_with (first | (go_at_call 56; (with_reducible refine (l1In_t x _ _ _ XR.out).mono ?_); rintro e w' ⟨rfl, rfl⟩) | (go_at_call 56; (with_reducible refine (l1In_t y _ _ _ YR.out).mono ?_); rintro e w' ⟨rfl, rfl⟩) | (go_at_call 56; (with_reducible refine (l1In_t z _ _ _ ZR.out).mono ?_); rintro e w' ⟨rfl, rfl⟩))) | (go_quiet (fail); go_wp2_with (first | (go_at_call 56; (with_reducible refine (l1In_t x _ _ _ XR.out).mono ?_); rintro e w' ⟨rfl, rfl⟩) | (go_at_call 56; (with_reducible refine (l1In_t y _ _ _ YR.out).mono ?_); rintro e w' ⟨rfl, rfl⟩) | (go_at_call 56; (with_reducible refine (l1In_t z _ _ _ ZR.out).mono ?_); rintro e w' ⟨rfl, rfl⟩))))
      refine (sDeviceValid_any _ A c D _ (HR.out.new (by repeat (first | exact Chg.refl _ _ | refine Chg.drewN ?_ _ | refine Chg.drew ?_ | refine Chg.alloc ?_ _))) HS.out).mono ?_
      rintro e w2 ⟨rfl, hc2⟩
      have HC2 := Lib.hid (show Chg NoB w w2 from Chg.trans (by repeat (first | exact Chg.refl _ _ | refine Chg.drewN ?_ _ | refine Chg.drew ?_ | refine Chg.alloc ?_ _)) hc2)
      clear hc2
      go_wp2
      go_ret
      exact ⟨ret_bool (bool_dec (by rw [decide_eq_true_iff]; exact ⟨fun hh => ⟨hh, HO.out⟩, fun hh => hh.1⟩)), HC2.out⟩
    have d' : (y == z) = false := by simpa using d
    have DH := Lib.hid d
    clear d
    have HO : Hid (HdOk D.length ⟨x, y, z⟩) := Lib.hid ⟨by have := XR.out; simp only; omega, by have := YR.out; simp only; omega, by have := ZR.out; simp only; omega, fun _ h => BH.out h.symm, fun h => absurd h cn, fun _ h => DH.out h.symm⟩
    go_enter Try.func66, Try.ntmps66
    go_wp2_with (first | (go_at_call 56; (with_reducible refine (l1In_t x _ _ _ XR.out).mono ?_); rintro e w' ⟨rfl, rfl⟩) | (go_at_call 56; (with_reducible refine (l1In_t y _ _ _ YR.out).mono ?_); rintro e w' ⟨rfl, rfl⟩) | (go_at_call 56; (with_reducible refine (l1In_t z _ _ _ ZR.out).mono ?_); rintro e w' ⟨rfl, rfl⟩))
    refine wp_loop_rounds 4 ?_
    repeat (first | (refine one_round ?_; go_wp2_with (first | (go_at_call 56; (with_reducible refine (l1In_t x _ _ _ XR.out).mono ?_); rintro e w' ⟨rfl, rfl⟩) | (go_at_call 56; (with_reducible refine (l1In_t y _ _ _ YR.out).mono ?_); rintro e w' ⟨rfl, rfl⟩) | (go_at_call 56; (with_reducible refine (l1In_t z _ _ _ ZR.out).mono ?_); rintro e w' ⟨rfl, rfl⟩))) | (refine wp_loop_rounds 3 ?_; refine one_round ?_; go_wp2_with (first | (go_at_call 56; (with_reducible refine (l1In_t x _ _ _ XR.out).mono ?_); rintro e w' ⟨rfl, rfl⟩) | (go_at_call 56; (with_reducible refine (l1In_t y _ _ _ YR.out).mono ?_); rintro e w' ⟨rfl, rfl⟩) | (go_at_call 56; (with_reducible refine (l1In_t z _ _ _ ZR.out).mono ?_); rintro e w' ⟨rfl, rfl⟩))) | (go_quiet (fail); go_wp2_with (first | (go_at_call 56; (with_reducible refine (l1In_t x _ _ _ XR.out).mono ?_); rintro e w' ⟨rfl, rfl⟩) | (go_at_call 56; (with_reducible refine (l1In_t y _ _ _ YR.out).mono ?_); rintro e w' ⟨rfl, rfl⟩) | (go_at_call 56; (with_reducible refine (l1In_t z _ _ _ ZR.out).mono ?_); rintro e w' ⟨rfl, rfl⟩))))
    refine (sDeviceValid_any _ A c D _ (HR.out.new (by repeat (first | exact Chg.refl _ _ | refine Chg.drewN ?_ _ | refine Chg.drew ?_ | refine Chg.alloc ?_ _))) HS.out).mono ?_
    rintro e w2 ⟨rfl, hc2⟩
    have HC2 := Lib.hid (show Chg NoB w w2 from Chg.trans (by repeat (first | exact Chg.refl _ _ | refine Chg.drewN ?_ _ | refine Chg.drew ?_ | refine Chg.alloc ?_ _)) hc2)
    clear hc2
    go_wp2
    go_ret
    exact ⟨ret_bool (bool_dec (by rw [decide_eq_true_iff]; exact ⟨fun hh => ⟨hh, HO.out⟩, fun hh => hh.1⟩)), HC2.out⟩
  have c' : (x == z) = false := by simpa using c
  have CH := Lib.hid c
  clear c
  by_cases d : y = z
  case pos =>
    have d' : (y == z) = true := by simpa using d
    by_cases dn : 0 ≤ z
    case pos =>
      have HO : Hid (¬ HdOk D.length ⟨x, y, z⟩) := Lib.hid (fun hh => by obtain ⟨⟨p1, p2⟩, ⟨p3, p4⟩, ⟨p5, p6⟩, p7, p8, p9⟩ := hh; simp only at p1 p2 p3 p4 p5 p6 p7 p8 p9; have := XR.out; have := YR.out; have := ZR.out; omega)
      clear d
      go_enter Try.func66, Try.ntmps66
      go_wp2_with (first | (go_at_call 56; (with_reducible refine (l1In_t x _ _ _ XR.out).mono ?_); rintro e w' ⟨rfl, rfl⟩) | (go_at_call 56; (with_reducible refine (l1In_t y _ _ _ YR.out).mono ?_); rintro e w' ⟨rfl, rfl⟩) | (go_at_call 56; (with_reducible refine (l1In_t z _ _ _ ZR.out).mono ?_); rintro e w' ⟨rfl, rfl⟩))
      refine wp_loop_rounds 4 ?_
      repeat (first | (refine one_round ?_; go_wp2_with (first | (go_at_call 56; (with_reducible refine (l1In_t x _ _ _ XR.out).mono ?_); rintro e w' ⟨rfl, rfl⟩) | (go_at_call 56; (with_reducible refine (l1In_t y _ _ _ YR.out).mono ?_); rintro e w' ⟨rfl, rfl⟩) | (go_at_call 56; (with_reducible refine (l1In_t z _ _ _ ZR.out).mono ?_); rintro e w' ⟨rfl, rfl⟩))) | (refine wp_loop_rounds 3 ?_; refine one_round ?_; go_wp2_with (first | (go_at_call 56; (with_reducible refine (l1In_t x _ _ _ XR.out).mono ?_); rintro e w' ⟨rfl, rfl⟩) | (go_at_call 56; (with_reducible refine (l1In_t y _ _ _ YR.out).mono ?_); rintro e w' ⟨rfl, rfl⟩) | (go_at_call 56; (with_reducible refine (l1In_t z _ _ _ ZR.out).mono ?_); rintro e w' ⟨rfl, rfl⟩))) | (go_quiet (fail); go_wp2_with (first | (go_at_call 56; (with_reducible refine (l1In_t x _ _ _ XR.out).mono ?_); rintro e w' ⟨rfl, rfl⟩) | (go_at_call 56; (with_reducible refine (l1In_t y _ _ _ YR.out).mono ?_); rintro e w' ⟨rfl, rfl⟩) | (go_at_call 56; (with_reducible refine (l1In_t z _ _ _ ZR.out).mono ?_); rintro e w' ⟨rfl, rfl⟩))))
      go_ret
      exact ⟨ret_bool (decide_eq_false fun hh => HO.out hh.2).symm, (by repeat (first | exact Chg.refl _ _ | refine Chg.drewN ?_ _ | refine Chg.drew ?_ | refine Chg.alloc ?_ _))⟩
    clear d
    have HO : Hid (HdOk D.length ⟨x, y, z⟩) := Lib.hid ⟨by have := XR.out; simp only; omega, by have := YR.out; simp only; omega, by have := ZR.out; simp only; omega, fun _ h => BH.out h.symm, fun _ h => CH.out h.symm, fun h => absurd h dn⟩
    go_enter Try.func66, Try.ntmps66
    go_wp2_with (first | (go_at_call 56; (with_reducible refine (l1In_t x _ _ _ XR.out).mono ?_); rintro e w' ⟨rfl, rfl⟩) | (go_at_call 56; (with_reducible refine (l1In_t y _ _ _ YR.out).mono ?_); rintro e w' ⟨rfl, rfl⟩) | (go_at_call 56; (with_reducible refine (l1In_t z _ _ _ ZR.out).mono ?_); rintro e w' ⟨rfl, rfl⟩))
    refine wp_loop_rounds 4 ?_
    repeat (first | (refine one_round ?_; go_wp2_with (first | (go_at_call 56; (with_reducible refine (l1In_t x _ _ _ XR.out).mono ?_); rintro e w' ⟨rfl, rfl⟩) | (go_at_call 56; (with_reducible refine (l1In_t y _ _ _ YR.out).mono ?_); rintro e w' ⟨rfl, rfl⟩) | (go_at_call 56; (with_reducible refine (l1In_t z _ _ _ ZR.out).mono ?_); rintro e w' ⟨rfl, rfl⟩))) | (refine wp_loop_rounds 3 ?_; refine one_round ?_; go_wp2_with (first | (go_at_call 56; (with_reducible refine (l1In_t x _ _ _ XR.out).mono ?_); rintro e w' ⟨rfl, rfl⟩) | (go_at_call 56; (with_reducible refine (l1In_t y _ _ _ YR.out).mono ?_); rintro e w' ⟨rfl, rfl⟩) | (go_at_call 56; (with_reducible refine (l1In_t z _ _ _ ZR.out).mono ?_); rintro e w' ⟨rfl, rfl⟩))) | (go_quiet (fail); go_wp2_with (first | (go_at_call 56; (with_reducible refine (l1In_t x _ _ _ XR.out).mono ?_); rintro e w' ⟨rfl, rfl⟩) | (go_at_call 56; (with_reducible refine (l1In_t y _ _ _ YR.out).mono ?_); rintro e w' ⟨rfl, rfl⟩) | (go_at_call 56; (with_reducible refine (l1In_t z _ _ _ ZR.out).mono ?_); rintro e w' ⟨rfl, rfl⟩))))
    refine (sDeviceValid_any _ A c D _ (HR.out.new (by repeat (first | exact Chg.refl _ _ | refine Chg.drewN ?_ _ | refine Chg.drew ?_ | refine Chg.alloc ?_ _))) HS.out).mono ?_
    rintro e w2 ⟨rfl, hc2⟩
    have HC2 := Lib.hid (show Chg NoB w w2 from Chg.trans (by repeat (first | exact Chg.refl _ _ | refine Chg.drewN ?_ _ | refine Chg.drew ?_ | refine Chg.alloc ?_ _)) hc2)
    clear hc2
    go_wp2
    go_ret
    exact ⟨ret_bool (bool_dec (by rw [decide_eq_true_iff]; exact ⟨fun hh => ⟨hh, HO.out⟩, fun hh => hh.1⟩)), HC2.out⟩
  have d' : (y == z) = false := by simpa using d
  have DH := Lib.hid d
  clear d
  have HO : Hid (HdOk D.length ⟨x, y, z⟩) := Lib.hid ⟨by have := XR.out; simp only; omega, by have := YR.out; simp only; omega, by have := ZR.out; simp only; omega, fun _ h => BH.out h.symm, fun _ h => CH.out h.symm, fun _ h => DH.out h.symm⟩
  go_enter Try.func66, Try.ntmps66
  go_wp2_with (first | (go_at_call 56; (with_reducible refine (l1In_t x _ _ _ XR.out).mono ?_); rintro e w' ⟨rfl, rfl⟩) | (go_at_call 56; (with_reducible refine (l1In_t y _ _ _ YR.out).mono ?_); rintro e w' ⟨rfl, rfl⟩) | (go_at_call 56; (with_reducible refine (l1In_t z _ _ _ ZR.out).mono ?_); rintro e w' ⟨rfl, rfl⟩))
  refine wp_loop_rounds 4 ?_
  repeat (first | (refine one_round ?_; go_wp2_with (first | (go_at_call 56; (with_reducible refine (l1In_t x _ _ _ XR.out).mono ?_); rintro e w' ⟨rfl, rfl⟩) | (go_at_call 56; (with_reducible refine (l1In_t y _ _ _ YR.out).mono ?_); rintro e w' ⟨rfl, rfl⟩) | (go_at_call 56; (with_reducible refine (l1In_t z _ _ _ ZR.out).mono ?_); rintro e w' ⟨rfl, rfl⟩))) | (refine wp_loop_rounds 3 ?_; refine one_round ?_; go_wp2_with (first | (go_at_call 56; (with_reducible refine (l1In_t x _ _ _ XR.out).mono ?_); rintro e w' ⟨rfl, rfl⟩) | (go_at_call 56; (with_reducible refine (l1In_t y _ _ _ YR.out).mono ?_); rintro e w' ⟨rfl, rfl⟩) | (go_at_call 56; (with_reducible refine (l1In_t z _ _ _ ZR.out).mono ?_); rintro e w' ⟨rfl, rfl⟩))) | (go_quiet (fail); go_wp2_with (first | (go_at_call 56; (with_reducible refine (l1In_t x _ _ _ XR.out).mono ?_); rintro e w' ⟨rfl, rfl⟩) | (go_at_call 56; (with_reducible refine (l1In_t y _ _ _ YR.out).mono ?_); rintro e w' ⟨rfl, rfl⟩) | (go_at_call 56; (with_reducible refine (l1In_t z _ _ _ ZR.out).mono ?_); rintro e w' ⟨rfl, rfl⟩))))
  refine (sDeviceValid_any _ A c D _ (HR.out.new (by repeat (first | exact Chg.refl _ _ | refine Chg.drewN ?_ _ | refine Chg.drew ?_ | refine Chg.alloc ?_ _))) HS.out).mono ?_
  rintro e w2 ⟨rfl, hc2⟩
  have HC2 := Lib.hid (show Chg NoB w w2 from Chg.trans (by repeat (first | exact Chg.refl _ _ | refine Chg.drewN ?_ _ | refine Chg.drew ?_ | refine Chg.alloc ?_ _)) hc2)
  clear hc2
  go_wp2
  go_ret
  exact ⟨ret_bool (bool_dec (by rw [decide_eq_true_iff]; exact ⟨fun hh => ⟨hh, HO.out⟩, fun hh => hh.1⟩)), HC2.out⟩
end Go.Proofs.Ytenbbkmbnpdfaaa
