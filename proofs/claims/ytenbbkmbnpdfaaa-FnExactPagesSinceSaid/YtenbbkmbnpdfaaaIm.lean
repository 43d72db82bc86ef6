/- Marks on slices of integers. -/
import Derived.Test.YtenbbkmbnpdfaaaI
import Derived.Test.YtenbbkmbnpdfaaaO
namespace Go.Proofs.Ytenbbkmbnpdfaaa
open Go.RowKit
def marksI (n : Nat) (k : Int) : List Int := (List.range n).map fun (i : Nat) => k + (i : Int)
theorem marksI_len (n : Nat) (k : Int) : (marksI n k).length = n := by simp [marksI]
theorem marksI_succ (n : Nat) (k : Int) : icells (marksI (n + 1) k) = icells (marksI n k) ++ [.int .i64 (k + (n : Int))] := by
  unfold marksI icells; rw [List.range_succ, List.map_append, List.map_append]; rfl
theorem marksI_get (n : Nat) (k : Int) (i : Nat) (h : i < (marksI n k).length) : (marksI n k)[i] = k + (i : Int) := by
  simp [marksI]
theorem icells_drop (xs : List Int) (k : Nat) (h : k < xs.length) : icells (xs.drop k) = .int .i64 xs[k] :: icells (xs.drop (k + 1)) := by
  rw [List.drop_eq_getElem_cons h]; rfl
set_option maxHeartbeats 1000000 in
theorem markIntS_any (B E : Nat) (A : Option Addr) (c : Nat) (xs : List Int) (k0 : Int) (w : World) (h : OwnS B E w 3 A xs.length c (icells xs)) (hl : xs.length ≤ 1048576) (hk0 : 0 ≤ k0) (hk1 : k0 ≤ 1000000000000) :
    Calls Try.prog 46 #[.slice A xs.length c, .int .i64 k0] w fun e w' => e = .returned (.int .i64 (k0 + (xs.length : Int))) ∧ Chg (fun i => B ≤ i ∧ i < E) w w' ∧ OwnS B E w' 3 A xs.length c (icells (marksI xs.length k0)) := by
  obtain ⟨hn, h⟩ := h
  rcases h with ⟨h0, h1⟩ | ⟨g, rest, rfl, hg, hgE, hb⟩
  · have hx : xs = [] := List.eq_nil_of_length_eq_zero h0
    subst hx
    go_enter Try.func46, Try.ntmps46
    go_wp2
    refine wp_loop_rounds 1 ?_
    rw [rounds_succ]
    go_wp2
    go_ret
    exact ⟨ret_int (by simp), Chg.refl _ _, OwnS.empty _ _ _ _ _ _⟩
  · go_enter Try.func46, Try.ntmps46
    go_wp2
    go_loopw [1, 5] (fun v i wr => ∃ k : Nat, k ≤ xs.length ∧ i = .int .i64 k ∧ v = .int .i64 (k0 + (k : Int)) ∧ Chg (fun i => B ≤ i ∧ i < E) w wr ∧ Blk wr g 3 (icells (marksI k k0) ++ (icells (xs.drop k) ++ rest)).toArray) (fun _ i _ => xs.length - (intOf i).toNat)
    case atStart => exact ⟨0, Nat.zero_le _, rfl, by simp, Chg.refl _ _, hb⟩
    case round =>
      obtain ⟨k, hk, rfl, rfl, hch, hb⟩ := hrel
      have HC := Lib.hid hch
      by_cases hlt : k < xs.length
      · rw [icells_drop xs k hlt] at hb
        have hlen : (icells (marksI k k0)).length = k := by rw [icells_length, marksI_len]
        have hroom := hb.room hlen
        have hfr := hb.frozen k
        have HF := Lib.hid (hb.fill1 hlen (.int .i64 (k0 + (k : Int))))
        have HS := Lib.hid (marksI_succ k k0)
        have hk8 : (k : Int) ≤ 1048576 := by omega
        clear hb hch hlen
        go_wp2
        go_roundw
        case rel =>
          refine ⟨k + 1, by omega, by go_num, congrArg (Value.int .i64) (by omega), HC.out.setCell (p := ⟨g, k, none⟩) (.inl ⟨hg, hgE⟩) _, ?_⟩
          rw [HS.out, List.append_assoc]
          exact HF.out
        case measure => simp [intOf]; omega
      · have hk' : k = xs.length := by omega
        subst hk'
        have HB := Lib.hid hb
        clear hb hch
        go_wp2
        go_ret
        refine ⟨rfl, HC.out, hn, .inr ⟨g, rest, rfl, hg, hgE, ?_⟩⟩
        have := HB.out
        rwa [List.drop_length] at this

set_option maxHeartbeats 1000000 in
theorem heldIntS_any (F : Nat → Prop) (A : Option Addr) (c n : Nat) (k0 : Int) (w : World) (h : Rd F w A (icells (marksI n k0))) (hl : n ≤ 1048576) (hk0 : 0 ≤ k0) (hk1 : k0 ≤ 1000000000000) :
    Calls Try.prog 47 #[.slice A n c, .int .i64 k0] w fun e w' => e = .returned (.int .i64 (k0 + (n : Int))) ∧ w = w' := by
  go_enter Try.func47, Try.ntmps47
  go_wp2
  go_loop [1, 5] (fun v i => ∃ k : Nat, k ≤ n ∧ i = .int .i64 k ∧ v = .int .i64 (k0 + (k : Int))) (fun _ i => n - (intOf i).toNat)
  case atStart => exact ⟨0, Nat.zero_le _, rfl, by simp⟩
  case round =>
    obtain ⟨k, hk, rfl, rfl⟩ := hrel
    by_cases hlt : k < n
    · obtain ⟨ad, rfl, hf, hbl, hc0⟩ := ints_at h (k := k) (by rw [marksI_len]; exact hlt)
      rw [marksI_get] at hc0
      have hk8 : (k : Int) ≤ 1048576 := by omega
      go_wp2
      go_round
      case rel => exact ⟨k + 1, by omega, by go_num, congrArg (Value.int .i64) (by omega)⟩
      case measure => simp [intOf]; omega
    · have hk' : k = n := by omega
      subst hk'
      go_wp2
      go_ret
      exact ⟨rfl, rfl⟩
end Go.Proofs.Ytenbbkmbnpdfaaa
