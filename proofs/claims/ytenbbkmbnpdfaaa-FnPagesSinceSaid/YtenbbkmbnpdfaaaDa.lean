/- The reader of codes: 'odd', 'l20Open'; 'alive'. -/
import Derived.Test.YtenbbkmbnpdfaaaD
import Derived.LoopN
namespace Go.Proofs.Ytenbbkmbnpdfaaa
open Go.RowKit

set_option maxHeartbeats 1000000 in
theorem odd_any (g N : Nat) (n : Int) (w : World) (h : Rdr w g N) (hN : N ≤ 1000000000) (hn0 : 0 ≤ n) (hn : n ≤ 1000000) :
    Calls Try.prog 89 #[.pointer (some ⟨g, 0, none⟩), .int .i64 n] w fun e w' =>
      ∃ b : Bool, e = .returned (.bool b) ∧ (n = 0 → b = false) ∧ Chg (· = g) w w' ∧ Rdr w' g (N + 1) := by
  by_cases h0 : n = 0
  · subst h0
    go_enter Try.func89, Try.ntmps89
    go_wp2
    go_ret
    exact ⟨false, rfl, fun _ => rfl, Chg.refl _ _, h.more (by omega)⟩
  · have h1 : 0 < n := by omega
    go_enter Try.func89, Try.ntmps89
    go_wp2_with (go_at_call 54; refine (pick_any g N n _ h hN (by omega) hn).mono ?_; rintro e w' ⟨k, rfl, hk, hc, hr⟩)
    go_ret
    exact ⟨_, rfl, fun hh => absurd hh h0, hc, hr⟩

set_option maxHeartbeats 1000000 in
theorem l20Open_any (A : Option Addr) (c : Nat) (bs : List Nat) (w : World) (h : Rd (fun i => i < w.heap.size) w A (bs.map fun (b : Nat) => Value.int .u8 (b : Int))) (hx : ∀ b ∈ bs, b < 256) (hc : bs.length ≤ c) :
    Calls Try.prog 53 #[.slice A bs.length c] w fun e w' =>
      ∃ g : Nat, e = .returned (.pointer (some ⟨g, 0, none⟩)) ∧ g = w.heap.size ∧ Chg NoB w w' ∧ Rdr w' g 0 := by
  by_cases hl : 2000 < bs.length
  · have hn : (bs.take 2000).length = 2000 := by simp; omega
    have ht : Rd (fun i => i < w.heap.size) w A ((bs.take 2000).map fun (b : Nat) => Value.int .u8 (b : Int)) := fun k v hk => by
      rw [List.map_take, List.getElem?_take] at hk
      split at hk
      · exact h k v hk
      · cases hk
    have H := Lib.hid ht
    have Hn := Lib.hid hn
    clear ht hn
    go_enter Try.func53, Try.ntmps53
    go_wp2
    go_ret
    refine ⟨w.heap.size, rfl, rfl, (Chg.refl _ _).alloc _, A, c, bs.take 2000, 0, ?_, Nat.le_refl _, by rw [Hn.out]; omega, H.out.chg ((Chg.refl NoB w).alloc _) (fun _ _ x => x), fun b hb => hx b (List.mem_of_mem_take hb)⟩
    rw [Hn.out]
    exact Blk.new _ _ _
  · go_enter Try.func53, Try.ntmps53
    go_wp2
    go_ret
    refine ⟨w.heap.size, rfl, rfl, (Chg.refl _ _).alloc _, A, c, bs, 0, Blk.new _ _ _, Nat.le_refl _, by omega, h.chg ((Chg.refl NoB w).alloc _) (fun _ _ x => x), hx⟩

set_option maxHeartbeats 1000000 in
theorem bitCount_10 (w : World) : Calls Try.prog 58 #[.int .i64 10] w fun e w' => e = .returned (.int .i64 2) ∧ w = w' := by
  go_enter Try.func58, Try.ntmps58
  go_wp2
  refine wp_loop_rounds 5 ?_
  iterate 5 (rw [rounds_succ]; go_wp2)
  go_ret
  exact ⟨rfl, rfl⟩
set_option maxHeartbeats 1000000 in
theorem bitCount_neg (w : World) : Calls Try.prog 58 #[.int .i64 (-1)] w fun e w' => e = .returned (.int .i64 (-1)) ∧ w = w' := by
  go_enter Try.func58, Try.ntmps58
  go_wp2
  go_ret
  exact ⟨rfl, rfl⟩
set_option maxHeartbeats 1000000 in
theorem alive_any (w : World) : Calls Try.prog 19 #[] w fun e w' => e = .returned (.bool true) ∧ w = w' := by
  go_enter Try.func19, Try.ntmps19
  go_wp2_with fail
  refine (bitCount_10 w).mono ?_
  rintro e w' ⟨rfl, rfl⟩
  go_wp2_with fail
  refine (bitCount_neg w).mono ?_
  rintro e w' ⟨rfl, rfl⟩
  go_wp2_with fail
  go_ret
  exact ⟨rfl, rfl⟩
end Go.Proofs.Ytenbbkmbnpdfaaa
