/- The laws' comparisons of numbers, tables and saves that are the same. -/
import Derived.Test.YtbgepefdfioljaaTb
import Derived.Test.YtbgepefdfioljaaDa
namespace Go.Proofs.Ytbgepefdfioljaa
open Go.RowKit
set_option maxRecDepth 100000 in
set_option maxHeartbeats 1000000 in
theorem sameInts_d (F G : Nat → Prop) (A B : Option Addr) (c d : Nat) (xs : List Int) (w : World) (h : Rd F w A (icells xs)) (h' : Rd G w B (icells xs)) (hl : xs.length ≤ 9223372036854775807) :
    Calls Try.prog 67 #[.slice A xs.length c, .slice B xs.length d] w fun e w' => e = .returned (.bool true) ∧ ∃ m, w' = w.drewN m := by
  have hne : ((xs.length : Int) != (xs.length : Int)) = false := by simp
  go_enter Try.func67, Try.ntmps67
  go_wp2
  go_loopw [5] (fun i wr => ∃ k : Nat, k ≤ xs.length ∧ i = .int .i64 k ∧ ∃ m, wr = w.drewN m) (fun i _ => xs.length - (intOf i).toNat)
  case atStart => exact ⟨0, Nat.zero_le _, rfl, 0, rfl⟩
  case round =>
    obtain ⟨k, hk, rfl, m, hwm⟩ := hrel
    have HW := Lib.hid hwm
    have hch : Chg NoB w wr := by rw [hwm]; exact (Chg.refl _ _).drewN _
    clear hwm
    by_cases hlt : k < xs.length
    · obtain ⟨ad, rfl, hf, hbl, hc⟩ := ints_at (h.chg hch fun _ _ x => x) hlt
      obtain ⟨ad', rfl, hf', hbl', hc'⟩ := ints_at (h'.chg hch fun _ _ x => x) hlt
      have hi0 : (0 : Int) ≤ (k : Int) := Int.natCast_nonneg _
      have hi1 : (k : Int) < (xs.length : Int) := by omega
      clear hch
      go_wp2
      go_quiet (fail)
      go_wp2
      go_roundw
      case rel => exact ⟨k + 1, by omega, by go_num, m + nq, by rw [HW.out]; simp [World.drewN, Nat.add_assoc]⟩
      case measure => simp [intOf]; omega
    · clear hch
      go_wp2
      go_ret
      exact ⟨rfl, m, HW.out⟩
set_option maxRecDepth 100000 in
set_option maxHeartbeats 1000000 in
theorem sameTable_t (F G : Nat → Prop) (A B : Option Addr) (c d : Nat) (X : List (List Int)) (w : World) (h : TabR F w A X) (h' : TabR G w B X) (hl : X.length ≤ 9223372036854775807) (hX : ∀ r ∈ X, r.length ≤ 9223372036854775807) :
    Calls Try.prog 35 #[.agg #[.slice A X.length c], .agg #[.slice B X.length d]] w fun e w' => e = .returned (.bool true) ∧ Chg NoB w w' := by
  have hne : ((X.length : Int) != (X.length : Int)) = false := by simp
  obtain ⟨hb1, hb2, hcb⟩ := lit2 w 39 39 #[.slice A X.length c] #[.slice B X.length d]
  have HB1 := Lib.hid hb1
  have HB2 := Lib.hid hb2
  have HC0 := Lib.hid hcb
  clear hb1 hb2 hcb
  go_enter Try.func35, Try.ntmps35
  go_wp2
  go_loopw [5] (fun i wr => ∃ k : Nat, k ≤ X.length ∧ i = .int .i64 k ∧ Chg NoB w wr ∧ Blk wr w.heap.size 39 #[.slice A X.length c] ∧ Blk wr (w.heap.size + 1) 39 #[.slice B X.length d]) (fun i _ => X.length - (intOf i).toNat)
  case atStart => exact ⟨0, Nat.zero_le _, rfl, HC0.out, HB1.out, HB2.out⟩
  case round =>
    obtain ⟨k, hk, rfl, hch, hb1, hb2⟩ := hrel
    have x0 : wr.cell? ⟨w.heap.size, 0, none⟩ = some (.slice A X.length c) := (hb1.cell _).trans rfl
    have y0 : wr.cell? ⟨w.heap.size + 1, 0, none⟩ = some (.slice B X.length d) := (hb2.cell _).trans rfl
    have HC := Lib.hid hch
    have HX := Lib.hid hb1
    have HY := Lib.hid hb2
    by_cases hlt : k < X.length
    · obtain ⟨ad, B1, c1, rfl, hf, hcell, hr, hc1⟩ := (h.new hch) k hlt
      obtain ⟨ad', B2, c2, rfl, hf', hcell', hr', hc2⟩ := (h'.new hch) k hlt
      have hlen := hX _ (List.getElem_mem hlt)
      have hi0 : (0 : Int) ≤ (k : Int) := Int.natCast_nonneg _
      have hi1 : (k : Int) < (X.length : Int) := by omega
      have HQ : ∀ n, Hid (Calls Try.prog 67 #[.slice B1 X[k].length c1, .slice B2 X[k].length c2] (wr.drewN n) fun e w'' => e = .returned (.bool true) ∧ ∃ m', w'' = wr.drewN m') := fun n => Lib.hid (quiet_left2 (sameInts_d _ _ B1 B2 c1 c2 X[k] _ (hr.new ((Chg.refl NoB wr).drewN n)) (hr'.new ((Chg.refl NoB wr).drewN n)) hlen))
      clear hr hr' hlen hch hb1 hb2
      go_wp2
      go_quiet ((go_at_call 67; exact (HQ _).out))
      go_wp2
      go_roundw
      case rel => exact ⟨k + 1, by omega, by go_num, HC.out.drewN _, HX.out.chg ((Chg.refl NoB wr).drewN _) (fun x => x), HY.out.chg ((Chg.refl NoB wr).drewN _) (fun x => x)⟩
      case measure => simp [intOf]; omega
    · clear hch hb1 hb2
      go_wp2
      go_ret
      exact ⟨rfl, HC.out⟩
set_option maxRecDepth 100000 in
set_option maxHeartbeats 1000000 in
theorem sameSave_t (F G : Nat → Prop) (n s : Int) (A B : Option Addr) (c d : Nat) (xs : List Int) (w : World) (h : Rd F w A (icells xs)) (h' : Rd G w B (icells xs)) (hl : xs.length ≤ 9223372036854775807) :
    Calls Try.prog 34 #[.agg #[.int .i64 n, .slice A xs.length c, .int .i64 s], .agg #[.int .i64 n, .slice B xs.length d, .int .i64 s]] w fun e' w' => e' = .returned (.bool true) ∧ Chg NoB w w' := by
  have h1 : (n == n) = true := by simp
  have h2 : (s == s) = true := by simp
  have HC := Lib.hid (((Chg.refl NoB w).alloc (.cells #[.int .i64 n, .slice A xs.length c, .int .i64 s] 37)).alloc (.cells #[.int .i64 n, .slice B xs.length d, .int .i64 s] 37))
  have hA := Lib.hid (h.lt.new HC.out)
  have hB := Lib.hid (h'.lt.new HC.out)
  go_enter Try.func34, Try.ntmps34
  go_wp2_with fail
  refine (sameInts_d _ _ A B c d xs _ hA.out hB.out hl).mono ?_
  rintro e w1 ⟨rfl, m, hm⟩
  have HC1 := Lib.hid (HC.out.trans (show Chg NoB _ w1 by rw [hm]; exact (Chg.refl _ _).drewN _))
  clear hm
  go_wp2
  go_ret
  exact ⟨rfl, HC1.out⟩
end Go.Proofs.Ytbgepefdfioljaa
