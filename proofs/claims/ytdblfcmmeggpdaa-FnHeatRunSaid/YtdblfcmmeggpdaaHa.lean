/- Heat: HeatRun and CoolsIn. -/
import Derived.Test.YtdblfcmmeggpdaaH
namespace Go.Proofs.Ytdblfcmmeggpdaa
open Go.RowKit

def heatFold (xs : List Int) : Int := xs.foldl heatStep 0
theorem heatFold_succ (xs : List Int) (k : Nat) (h : k < xs.length) : heatFold (xs.take (k + 1)) = heatStep (heatFold (xs.take k)) xs[k] := by
  unfold heatFold
  rw [List.take_succ_eq_append_getElem h, List.foldl_append]; rfl
theorem foldl_neg (xs : List Int) : xs.foldl heatStep (-1) = -1 := by
  induction xs with
  | nil => rfl
  | cons x xs ih => rw [List.foldl_cons, heatStep_neg, ih]
theorem heatFold_stop (xs : List Int) (k : Nat) (h : heatFold (xs.take k) < 0) : heatFold xs = -1 := by
  have e : heatFold (xs.take k) = -1 := by
    have : -1 ≤ heatFold (xs.take k) := by
      unfold heatFold
      rcases List.eq_nil_or_concat (xs.take k) with h0 | ⟨l, a, h0⟩
      · rw [h0]; decide
      · rw [h0, List.concat_eq_append, List.foldl_append]; exact (heatStep_ge _ _).1
    omega
  unfold heatFold at e ⊢
  rw [← List.take_append_drop k xs, List.foldl_append, e, foldl_neg]
def heatRun (xs : List Int) : Int := if 40 < xs.length then -1 else heatFold xs

set_option maxHeartbeats 1000000 in
theorem iHeatRun_any (F : Nat → Prop) (A : Option Addr) (c : Nat) (xs : List Int) (w : World) (h : Rd F w A (xs.map (Value.int .i64))) :
    Calls Try.prog 23 #[.slice A xs.length c] w fun e w' => e = .returned (.int .i64 (heatRun xs)) ∧ w = w' := by
  by_cases hl : 40 < xs.length
  · go_enter Try.func23, Try.ntmps23
    go_wp2
    go_ret
    exact ⟨ret_int (by rw [heatRun, if_pos hl]), rfl⟩
  · have hr := Lib.hid (show heatRun xs = heatFold xs by rw [heatRun, if_neg hl])
    have hl' : xs.length ≤ 40 := by omega
    go_enter Try.func23, Try.ntmps23
    go_wp2
    go_loop [3, 11] (fun v i => ∃ k : Nat, k ≤ xs.length ∧ i = .int .i64 k ∧ v = .int .i64 (heatFold (xs.take k))) (fun _ i => xs.length - (intOf i).toNat)
    case atStart => exact ⟨0, Nat.zero_le _, rfl, rfl⟩
    case round =>
      obtain ⟨k, hk, rfl, rfl⟩ := hrel
      by_cases hlt : k < xs.length
      · obtain ⟨ad, rfl, hf, hb, hc⟩ := ints_at h hlt
        have hs := Lib.hid (heatFold_succ xs k hlt)
        have hst := Lib.hid (heatFold_stop xs (k + 1))
        go_wp2_with (go_at_call 16; refine (iHeatStep_any _ _ _).mono ?_; rintro e w' ⟨rfl, rfl⟩)
        · go_ret
          exact ⟨ret_int (by rw [hr.out, hst.out (by rw [hs.out]; assumption)]), rfl⟩
        · go_round
          case rel => exact ⟨k + 1, by omega, by go_num, by rw [hs.out]⟩
          case measure => simp [intOf]; omega
      · go_wp2
        go_ret
        exact ⟨ret_int (by rw [hr.out, List.take_of_length_le (by omega)]), rfl⟩

set_option maxHeartbeats 1000000 in
theorem sHeatRun_any (F : Nat → Prop) (A : Option Addr) (c : Nat) (xs : List Int) (w : World) (h : Rd F w A (xs.map (Value.int .i64))) (hm : xs.length ≤ 9223372036854775807) :
    Calls Try.prog 21 #[.slice A xs.length c] w fun e w' => e = .returned (.int .i64 (heatRun xs)) ∧ w = w' := by
  go_enter Try.func21, Try.ntmps21
  go_wp2
  go_loop [3, 4] (fun v i => ∃ k : Nat, k ≤ xs.length ∧ i = .int .i64 k ∧ v = .int .i64 (heatFold (xs.take k)) ∧ (0 < k → xs.length ≤ 40)) (fun _ i => xs.length - (intOf i).toNat)
  case atStart => exact ⟨0, Nat.zero_le _, rfl, rfl, fun h => absurd h (by omega)⟩
  case round =>
    obtain ⟨k, hk, rfl, rfl, h40⟩ := hrel
    have H40 := Lib.hid h40
    clear h40
    by_cases hlt : k < xs.length
    · obtain ⟨ad, rfl, hf, hb, hc⟩ := ints_at h hlt
      have hs := Lib.hid (heatFold_succ xs k hlt)
      have hst := Lib.hid (heatFold_stop xs (k + 1))
      by_cases hn : heatStep (heatFold (xs.take k)) xs[k] < 0
      · go_wp2_with (go_at_call 15; refine (sHeatStep_any _ _ _).mono ?_; rintro e w' ⟨rfl, rfl⟩)
        go_ret
        exact ⟨ret_int (by unfold heatRun; split; rfl; rw [hst.out (by rw [hs.out]; assumption)]), rfl⟩
      · go_wp2_with (go_at_call 15; refine (sHeatStep_any _ _ _).mono ?_; rintro e w' ⟨rfl, rfl⟩)
        · go_ret
          exact ⟨ret_int (by rw [heatRun, if_pos (by omega)]), rfl⟩
        · go_round
          case rel => exact ⟨k + 1, by omega, by go_num, by rw [hs.out], fun _ => by omega⟩
          case measure => simp [intOf]; omega
    · go_wp2
      go_ret
      have h40 : xs.length ≤ 40 := by
        rcases Nat.eq_zero_or_pos k with h0 | h0
        · omega
        · exact H40.out h0
      exact ⟨ret_int (by rw [heatRun, if_neg (by omega), List.take_of_length_le (by omega)]), rfl⟩

/-- How often a heat is halved till it is cold. -/
def coolN : Nat → Nat → Nat
  | 0, _ => 0
  | f + 1, h => if h < 10 then 0 else 1 + coolN f (h / 2)
def coolOf (h : Nat) : Nat := coolN 10 h
theorem coolOf_step : ∀ h : Fin 1001, coolOf h.1 = if h.1 < 10 then 0 else 1 + coolOf (h.1 / 2) := by decide +kernel
theorem coolOf_low (h : Nat) (h1 : h < 10) : coolOf h = 0 := by
  have := coolOf_step ⟨h, by omega⟩; simp only [if_pos h1] at this; exact this
theorem coolOf_high (h : Nat) (h0 : h ≤ 1000) (h1 : 10 ≤ h) : coolOf h = 1 + coolOf (h / 2) := by
  have := coolOf_step ⟨h, by omega⟩; simp only [if_neg (show ¬ h < 10 by omega)] at this; exact this
theorem coolOf_le (h : Nat) (h0 : h ≤ 1000) : coolOf h ≤ 10 := by
  have : ∀ h : Fin 1001, coolOf h.1 ≤ 10 := by decide +kernel
  exact this ⟨h, by omega⟩
def coolsIn (h : Int) : Int := if h < 0 ∨ 1000 < h then -1 else coolOf h.toNat
theorem heatStep_0 (h : Nat) (h0 : h ≤ 1000) : heatStep (h : Int) 0 = ((h / 2 : Nat) : Int) := by
  unfold heatStep; rw [if_neg (by omega)]; omega
theorem heatKind_cold (h : Nat) (h0 : h < 10) : heatKind (h : Int) = 2 := by
  unfold heatKind; rw [if_neg (by omega), if_neg (by omega), if_neg (by omega)]
theorem heatKind_hot (h : Nat) (h1 : 10 ≤ h) : heatKind (h : Int) ≠ 2 := by
  unfold heatKind; split; omega; split; omega; rw [if_pos (by omega)]; omega

set_option maxHeartbeats 1000000 in
theorem iCoolsIn_any (h : Int) (w : World) :
    Calls Try.prog 26 #[.int .i64 h] w fun e w' => e = .returned (.int .i64 (coolsIn h)) ∧ w = w' := by
  by_cases h1 : h < 0
  · go_enter Try.func26, Try.ntmps26
    go_wp2
    go_ret
    exact ⟨ret_int (by rw [coolsIn, if_pos (by omega)]), rfl⟩
  by_cases h2 : 1000 < h
  · go_enter Try.func26, Try.ntmps26
    go_wp2
    go_ret
    exact ⟨ret_int (by rw [coolsIn, if_pos (by omega)]), rfl⟩
  obtain ⟨n, rfl⟩ := Int.eq_ofNat_of_zero_le (show 0 ≤ h by omega)
  have hn : n ≤ 1000 := by omega
  have hr := Lib.hid (show coolsIn n = coolOf n by rw [coolsIn, if_neg (by omega), Int.toNat_natCast])
  go_enter Try.func26, Try.ntmps26
  go_wp2
  go_loop [0, 3] (fun v i => ∃ (k m : Nat), v = .int .i64 m ∧ i = .int .i64 k ∧ m ≤ 1000 ∧ k ≤ 10 ∧ Hid (coolOf n = k + coolOf m)) (fun v _ => (intOf v).toNat)
  case atStart => exact ⟨0, n, rfl, rfl, hn, Nat.zero_le _, Lib.hid (by omega)⟩
  case round =>
    obtain ⟨k, m, rfl, rfl, hm, hk, hc⟩ := hrel
    by_cases hlt : m < 10
    · have hkd := heatKind_cold m hlt
      have HK := Lib.hid hkd
      clear hkd
      go_wp2_with (go_at_call 18; refine (iHeatKind_any _ _).mono ?_; rintro e w' ⟨rfl, rfl⟩; rw [HK.out])
      go_ret
      exact ⟨ret_int (by rw [hr.out, hc.out, coolOf_low m hlt]; rfl), rfl⟩
    · have hkd := beq_eq_false_iff_ne.2 (heatKind_hot m (by omega))
      have hkd' : (heatKind (m : Int) != 2) = true := by rw [bne_iff_ne]; exact heatKind_hot m (by omega)
      have HS := Lib.hid (heatStep_0 m hm)
      have hco := coolOf_high m hm (by omega)
      have hle := coolOf_le n hn
      have hcc := hc.out
      have hk10 : k + 1 ≤ 10 := by omega
      have HC := Lib.hid (show coolOf n = (k + 1 : Nat) + coolOf (m / 2) by omega)
      clear hco hle hcc
      go_wp2_with (first | (go_at_call 18; refine (iHeatKind_any _ _).mono ?_; rintro e w' ⟨rfl, rfl⟩) | (go_at_call 16; refine (iHeatStep_any _ _ _).mono ?_; rintro e w' ⟨rfl, rfl⟩; rw [HS.out]))
      go_round
      case rel => exact ⟨k + 1, m / 2, by go_num, by go_num, by omega, hk10, HC⟩
      case measure => simp [intOf]; omega

set_option maxHeartbeats 1000000 in
theorem sCoolsIn_any (h : Int) (w : World) :
    Calls Try.prog 25 #[.int .i64 h] w fun e w' => e = .returned (.int .i64 (coolsIn h)) ∧ w = w' := by
  by_cases h1 : 0 ≤ h ∧ h ≤ 1000
  case neg =>
    go_enter Try.func25, Try.ntmps25
    go_wp2_with (go_at_call 40; refine (l1In_f h 0 1000 _ h1).mono ?_; rintro e w' ⟨rfl, rfl⟩)
    go_ret
    exact ⟨ret_int (by rw [coolsIn, if_pos (by omega)]), rfl⟩
  obtain ⟨n, rfl⟩ := Int.eq_ofNat_of_zero_le (show 0 ≤ h by omega)
  have hn : n ≤ 1000 := by omega
  have hr := Lib.hid (show coolsIn n = coolOf n by rw [coolsIn, if_neg (by omega), Int.toNat_natCast])
  go_enter Try.func25, Try.ntmps25
  go_wp2_with (go_at_call 40; refine (l1In_t _ 0 1000 _ h1).mono ?_; rintro e w' ⟨rfl, rfl⟩)
  go_loop [0, 3] (fun v i => ∃ (k m : Nat), v = .int .i64 m ∧ i = .int .i64 k ∧ m ≤ 1000 ∧ k ≤ 10 ∧ Hid (coolOf n = k + coolOf m)) (fun v _ => (intOf v).toNat)
  case atStart => exact ⟨0, n, rfl, rfl, hn, Nat.zero_le _, Lib.hid (by omega)⟩
  case round =>
    obtain ⟨k, m, rfl, rfl, hm, hk, hc⟩ := hrel
    by_cases hlt : m < 10
    · have hkd := heatKind_cold m hlt
      have HK := Lib.hid hkd
      clear hkd
      go_wp2_with (go_at_call 17; refine (sHeatKind_any _ _).mono ?_; rintro e w' ⟨rfl, rfl⟩; rw [HK.out])
      go_ret
      exact ⟨ret_int (by rw [hr.out, hc.out, coolOf_low m hlt]; rfl), rfl⟩
    · have hkd := beq_eq_false_iff_ne.2 (heatKind_hot m (by omega))
      have hkd' : (heatKind (m : Int) != 2) = true := by rw [bne_iff_ne]; exact heatKind_hot m (by omega)
      have HS := Lib.hid (heatStep_0 m hm)
      have hco := coolOf_high m hm (by omega)
      have hle := coolOf_le n hn
      have hcc := hc.out
      have hk10 : k + 1 ≤ 10 := by omega
      have HC := Lib.hid (show coolOf n = (k + 1 : Nat) + coolOf (m / 2) by omega)
      clear hco hle hcc
      go_wp2_with (first | (go_at_call 17; refine (sHeatKind_any _ _).mono ?_; rintro e w' ⟨rfl, rfl⟩) | (go_at_call 15; refine (sHeatStep_any _ _ _).mono ?_; rintro e w' ⟨rfl, rfl⟩; rw [HS.out]))
      go_round
      case rel => exact ⟨k + 1, m / 2, by go_num, by go_num, by omega, hk10, HC⟩
      case measure => simp [intOf]; omega
end Go.Proofs.Ytdblfcmmeggpdaa
