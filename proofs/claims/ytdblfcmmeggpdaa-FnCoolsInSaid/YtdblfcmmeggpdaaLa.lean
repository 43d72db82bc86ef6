/- The laws on heat: the walks. -/
import Derived.Test.YtdblfcmmeggpdaaHa
import Derived.Test.YtdblfcmmeggpdaaDh
namespace Go.Proofs.Ytdblfcmmeggpdaa
open Go.RowKit
theorem FnExactHeatStep_any (a b : Int) (w : World) :
    Calls Try.prog 3 #[.int .i64 a, .int .i64 b] w fun e w' => e = .returned (.bool true) ∧ Chg NoB w w' := by
  go_enter Try.func3, Try.ntmps3
  go_wp2_with (first | (go_at_call 15; refine (sHeatStep_any _ _ _).mono ?_; rintro e w' ⟨rfl, rfl⟩) | (go_at_call 16; refine (iHeatStep_any _ _ _).mono ?_; rintro e w' ⟨rfl, rfl⟩))
  go_ret
  exact ⟨rfl, Chg.refl _ _⟩
theorem FnExactHeatKind_any (a : Int) (w : World) :
    Calls Try.prog 4 #[.int .i64 a] w fun e w' => e = .returned (.bool true) ∧ Chg NoB w w' := by
  go_enter Try.func4, Try.ntmps4
  go_wp2_with (first | (go_at_call 17; refine (sHeatKind_any _ _).mono ?_; rintro e w' ⟨rfl, rfl⟩) | (go_at_call 18; refine (iHeatKind_any _ _).mono ?_; rintro e w' ⟨rfl, rfl⟩))
  go_ret
  exact ⟨rfl, Chg.refl _ _⟩
theorem FnExactCoolsIn_any (a : Int) (w : World) :
    Calls Try.prog 7 #[.int .i64 a] w fun e w' => e = .returned (.bool true) ∧ Chg NoB w w' := by
  go_enter Try.func7, Try.ntmps7
  go_wp2_with (first | (go_at_call 25; refine (sCoolsIn_any _ _).mono ?_; rintro e w' ⟨rfl, rfl⟩) | (go_at_call 26; refine (iCoolsIn_any _ _).mono ?_; rintro e w' ⟨rfl, rfl⟩))
  go_ret
  exact ⟨rfl, Chg.refl _ _⟩

theorem Blk.rd {w : World} {g : Nat} {t : TypeId} {cs : List Value} (h : Blk w g t cs.toArray) : Rd (· = g) w (some ⟨g, 0, none⟩) cs := fun k v hk => by
  refine ⟨_, rfl, rfl, ?_⟩
  have e : (⟨g, 0, none⟩ : Addr).add k = ⟨g, k, none⟩ := by unfold Addr.add; split <;> simp_all
  rw [e, h.cell]
  simpa using hk

set_option maxHeartbeats 1000000 in
theorem FnExactHeatRun_any (A : Option Addr) (c : Nat) (xs : List Int) (w : World) (h : Rd (fun i => i < w.heap.size) w A (xs.map (Value.int .i64))) (_hc : xs.length ≤ c) (_hm : c ≤ maxLen) :
    Calls Try.prog 6 #[.slice A xs.length c] w fun e w' => e = .returned (.bool true) ∧ Chg NoB w w' := by
  by_cases hl : 1048576 < xs.length
  · go_enter Try.func6, Try.ntmps6
    go_wp2
    go_ret
    exact ⟨rfl, Chg.refl _ _⟩
  have hl' : xs.length ≤ 1048576 := by omega
  go_enter Try.func6, Try.ntmps6
  go_wp2_with fail
  refine (toIntS_any _ A c xs w h hl').mono ?_
  rintro e w1 ⟨g1, rfl, hg1, hc1, hb1⟩
  have HG1 := Lib.hid hg1
  clear hg1
  go_wp2_with fail
  refine (sHeatRun_any _ _ _ xs _ hb1.rd (by omega)).mono ?_
  rintro e w' ⟨rfl, rfl⟩
  go_wp2_with fail
  refine (toIntS_any _ A c xs w1 (h.chg hc1 fun _ _ x => x) hl').mono ?_
  rintro e w2 ⟨g2, rfl, hg2, hc2, hb2⟩
  have HG2 := Lib.hid hg2
  clear hg2
  go_wp2_with fail
  refine (iHeatRun_any _ _ _ xs _ hb2.rd).mono ?_
  rintro e w' ⟨rfl, rfl⟩
  go_wp2_with fail
  refine (toIntS_any _ A c xs w2 (h.chg (hc1.trans hc2) fun _ _ x => x) hl').mono ?_
  rintro e w3 ⟨g3, rfl, hg3, hc3, hb3⟩
  have HG3 := Lib.hid hg3
  clear hg3
  go_wp2_with fail
  refine (eqIntS_t _ _ _ _ _ _ xs _ (hb2.chg hc3 (fun x => x)).rd hb3.rd (by omega)).mono ?_
  rintro e w4 ⟨rfl, m, rfl⟩
  go_wp2
  go_ret
  exact ⟨rfl, ((hc1.trans hc2).trans hc3).drewN m⟩

set_option maxHeartbeats 1000000 in
theorem FnHeatKind_any (A : Option Addr) (c : Nat) (bs : List Nat) (w : World) (h : Rd (fun i => i < w.heap.size) w A (bs.map fun (b : Nat) => Value.int .u8 (b : Int))) (hx : ∀ b ∈ bs, b < 256) (hc : bs.length ≤ c) (_hm : c ≤ maxLen) :
    Calls Try.prog 8 #[.slice A bs.length c] w fun e w' => e = .returned (.bool true) ∧ Chg NoB w w' := by
  by_cases hl : 1048576 < bs.length
  · go_enter Try.func8, Try.ntmps8
    go_wp2
    go_ret
    exact ⟨rfl, Chg.refl _ _⟩
  have hl' : bs.length ≤ 1048576 := by omega
  go_enter Try.func8, Try.ntmps8
  go_wp2_with fail
  refine (DrawHeatKind_any A c bs w h hx hc).mono ?_
  rintro e w1 ⟨x, rfl, hc1⟩
  go_wp2_with fail
  refine (iHeatKind_any x _).mono ?_
  rintro e w' ⟨rfl, rfl⟩
  go_wp2_with fail
  refine (sHeatKind_any x _).mono ?_
  rintro e w' ⟨rfl, rfl⟩
  by_cases hx0 : x < 0 ∨ 1000 < x
  · have e : heatKind x = -1 := by rw [heatKind, if_pos hx0]
    rw [e]
    go_wp2_with fail
    refine (alive_any _).mono ?_
    rintro e w' ⟨rfl, rfl⟩
    go_wp2
    go_ret
    exact ⟨rfl, hc1⟩
  · have h0 : 0 ≤ heatKind x := by unfold heatKind; (repeat' split) <;> omega
    have h2 : heatKind x ≤ 2 := by unfold heatKind; (repeat' split) <;> omega
    have hx1 : 0 ≤ x := by omega
    have hx2 : x ≤ 1000 := by omega
    by_cases hm : x = 1000
    · subst hm
      go_wp2
      go_ret
      exact ⟨rfl, hc1⟩
    · have hne : (x == 1000) = false := beq_eq_false_iff_ne.2 hm
      have hle : heatKind (x + 1) ≤ heatKind x := by unfold heatKind; (repeat' split) <;> omega
      go_wp2_with fail
      refine (iHeatKind_any (x + 1) _).mono ?_
      rintro e w' ⟨rfl, rfl⟩
      go_wp2
      go_ret
      exact ⟨rfl, hc1⟩

set_option maxHeartbeats 1000000 in
theorem FnCoolsIn_any (A : Option Addr) (c : Nat) (bs : List Nat) (w : World) (h : Rd (fun i => i < w.heap.size) w A (bs.map fun (b : Nat) => Value.int .u8 (b : Int))) (hx : ∀ b ∈ bs, b < 256) (hc : bs.length ≤ c) (_hm : c ≤ maxLen) :
    Calls Try.prog 10 #[.slice A bs.length c] w fun e w' => e = .returned (.bool true) ∧ Chg NoB w w' := by
  by_cases hl : 1048576 < bs.length
  · go_enter Try.func10, Try.ntmps10
    go_wp2
    go_ret
    exact ⟨rfl, Chg.refl _ _⟩
  have hl' : bs.length ≤ 1048576 := by omega
  go_enter Try.func10, Try.ntmps10
  go_wp2_with fail
  refine (DrawCoolsIn_any A c bs w h hx hc).mono ?_
  rintro e w1 ⟨x, rfl, hc1⟩
  have HC1 := Lib.hid hc1
  clear hc1
  go_wp2_with fail
  refine (iCoolsIn_any x _).mono ?_
  rintro e w' ⟨rfl, rfl⟩
  go_wp2_with fail
  refine (sCoolsIn_any x _).mono ?_
  rintro e w' ⟨rfl, rfl⟩
  by_cases hx0 : x < 0 ∨ 1000 < x
  · have e : coolsIn x = -1 := by rw [coolsIn, if_pos hx0]
    rw [e]
    go_wp2_with fail
    refine (alive_any _).mono ?_
    rintro e w' ⟨rfl, rfl⟩
    go_wp2
    go_ret
    exact ⟨rfl, HC1.out⟩
  · obtain ⟨n, rfl⟩ := Int.eq_ofNat_of_zero_le (show 0 ≤ x by omega)
    have hn : n ≤ 1000 := by omega
    have e : coolsIn n = coolOf n := by rw [coolsIn, if_neg hx0, Int.toNat_natCast]
    rw [e]
    have h10 := coolOf_le n hn
    generalize hN : coolOf n = N at *
    have HN := Lib.hid hN
    clear e hN hx0
    go_wp2
    go_loop [3, 5] (fun v i => ∃ (k m : Nat), v = .int .i64 m ∧ i = .int .i64 k ∧ m ≤ 1000 ∧ k ≤ N ∧ Hid (N = k + coolOf m)) (fun _ i => N - (intOf i).toNat)
    case atStart => exact ⟨0, n, rfl, rfl, hn, Nat.zero_le _, Lib.hid (by rw [HN.out]; omega)⟩
    case round =>
      obtain ⟨k, m, rfl, rfl, hm, hk, hcc⟩ := hrel
      by_cases hlt : k < N
      · have hm10 : 10 ≤ m := by
          rcases Nat.lt_or_ge m 10 with h1 | h1
          · have := coolOf_low m h1; have := hcc.out; omega
          · exact h1
        have hkd := beq_eq_false_iff_ne.2 (heatKind_hot m hm10)
        have HS := Lib.hid (heatStep_0 m hm)
        have hco := coolOf_high m hm hm10
        have HC := Lib.hid (show N = (k + 1 : Nat) + coolOf (m / 2) by have := hcc.out; omega)
        clear hco hcc
        have hk20 : k < 20 := by omega
        go_wp2_with (first | (go_at_call 18; refine (iHeatKind_any _ _).mono ?_; rintro e w' ⟨rfl, rfl⟩) | (go_at_call 16; refine (iHeatStep_any _ _ _).mono ?_; rintro e w' ⟨rfl, rfl⟩; rw [HS.out]))
        go_round
        case rel => exact ⟨k + 1, m / 2, by go_num, by go_num, by omega, by omega, HC⟩
        case measure => simp [intOf]; omega
      · have hm10 : m < 10 := by
          rcases Nat.lt_or_ge m 10 with h1 | h1
          · exact h1
          · have := coolOf_high m hm h1; have := hcc.out; omega
        have HK := Lib.hid (heatKind_cold m hm10)
        clear hcc
        go_wp2_with (go_at_call 18; refine (iHeatKind_any _ _).mono ?_; rintro e w' ⟨rfl, rfl⟩; rw [HK.out])
        go_ret
        exact ⟨rfl, HC1.out⟩
end Go.Proofs.Ytdblfcmmeggpdaa
