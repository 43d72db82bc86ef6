/- Slices of integers: toIntS, eqIntS. -/
import Derived.Test.YtenbbkmbnpdfaaaRows
import Derived.Test.YtenbbkmbnpdfaaaB
import Derived.WalkKit
import Derived.ProofKit
import Derived.WalkLawsBesides
import Derived.WalkSpells
import Derived.Deep.QuietTactic
import Derived.BigQuiet
import Derived.Laws.MakeOwn
namespace Go.Proofs.Ytenbbkmbnpdfaaa
open Go.RowKit

theorem ints_at {F : Nat → Prop} {w : World} {A : Option Addr} {xs : List Int} (h : Rd F w A (xs.map (Value.int .i64))) {k : Nat} (hk : k < xs.length) :
    ∃ ad, A = some ad ∧ F ad.block ∧ ad.block < w.heap.size ∧ w.cell? (ad.add k) = some (.int .i64 xs[k]) := by
  obtain ⟨ad, e, hf, hb, hc⟩ := h.at_ (k := k) (by simpa using hk)
  exact ⟨ad, e, hf, hb, by simpa using hc⟩

theorem info_int : (Try.prog.info? 3).map (fun i => (i.zero, i.size, i.bytes)) = some (some (.int .i64 0), 1, 8) := by kernel_rfl


/-- Cells of a list of integers. -/
def icells (xs : List Int) : List Value := xs.map (Value.int .i64)
theorem icells_length (xs : List Int) : (icells xs).length = xs.length := by simp [icells]
theorem icells_zeros (n : Nat) : icells (List.replicate n 0) = reps n [Value.int .i64 0] := by
  induction n with
  | zero => rfl
  | succ n ih => rw [List.replicate_succ, reps_succ, ← ih]; rfl
theorem icells_take_succ (xs : List Int) (k : Nat) (h : k < xs.length) : icells (xs.take (k + 1)) = icells (xs.take k) ++ [Value.int .i64 xs[k]] := by
  unfold icells; rw [List.take_succ_eq_append_getElem h, List.map_append]; rfl

set_option maxHeartbeats 1000000 in
theorem eqIntS_t (F G : Nat → Prop) (A B : Option Addr) (c d : Nat) (xs : List Int) (w : World) (h : Rd F w A (xs.map (Value.int .i64))) (h' : Rd G w B (xs.map (Value.int .i64))) (hl : xs.length ≤ 9223372036854775807) :
    Calls Try.prog 44 #[.slice A xs.length c, .slice B xs.length d] w fun e w' => e = .returned (.bool true) ∧ ∃ m, w' = w.drewN m := by
  have hne : ((xs.length : Int) != (xs.length : Int)) = false := by simp
  go_enter Try.func44, Try.ntmps44
  go_wp2
  go_loopw [5] (fun i wr => ∃ k : Nat, k ≤ xs.length ∧ i = .int .i64 k ∧ ∃ m, wr = w.drewN m) (fun i _ => xs.length - (intOf i).toNat)
  case atStart => exact ⟨0, Nat.zero_le _, rfl, 0, rfl⟩
  case round =>
    obtain ⟨k, hk, rfl, m, rfl⟩ := hrel
    by_cases hlt : k < xs.length
    · obtain ⟨ad, rfl, hf, hbl, hc⟩ := ints_at h hlt
      obtain ⟨ad', rfl, hf', hbl', hc'⟩ := ints_at h' hlt
      have hi0 : (0 : Int) ≤ (k : Int) := Int.natCast_nonneg _
      have hi1 : (k : Int) < (xs.length : Int) := by omega
      go_wp2
      go_quiet (fail)
      go_wp2
      go_roundw
      case rel => exact ⟨k + 1, by omega, by go_num, _, rfl⟩
      case measure => simp [intOf]; omega
    · go_wp2
      go_ret
      exact ⟨rfl, m, rfl⟩
end Go.Proofs.Ytenbbkmbnpdfaaa
