/- The laws' helpers on links: sizes, copies, comparisons, marks. -/
import Derived.Test.YtbgepefdfioljaaK
import Derived.Deep.RegionHeld3
namespace Go.Proofs.Ytbgepefdfioljaa
open Go.RowKit

theorem szLinksS_any (A : Option Addr) (n c : Nat) (w : World) (hn : n ≤ maxLen) :
    Calls Try.prog 46 #[.slice A n c, .int .i64 1048576] w fun e w' => ∃ x : Int, e = .returned (.int .i64 x) ∧ (x < 0 ↔ 1048576 < n) ∧ w = w' := by
  unfold maxLen at hn
  by_cases h : 1048576 < n
  · go_enter Try.func46, Try.ntmps46
    go_wp2
    go_ret
    exact ⟨-1, rfl, by omega, rfl⟩
  · go_enter Try.func46, Try.ntmps46
    go_wp2
    go_ret
    exact ⟨_, rfl, by omega, rfl⟩

theorem toLinks_any (a b : Int) (w : World) :
    Calls Try.prog 75 #[.agg #[.int .i64 a, .int .i64 b]] w fun e w' => e = .returned (.agg #[.int .i64 a, .int .i64 b]) ∧ Chg NoB w w' := by
  go_enter Try.func75, Try.ntmps75
  go_wp2
  refine bodyPost_ret (v := .agg #[.int .i64 a, .int .i64 b]) (by simp [results, Try.results75, go_sem]) rfl ⟨rfl, ?_⟩
  exact (((Chg.refl _ _).alloc _).alloc _).alloc _

theorem eqLinks_t (a b : Int) (w : World) :
    Calls Try.prog 76 #[.agg #[.int .i64 a, .int .i64 b], .agg #[.int .i64 a, .int .i64 b]] w fun e w' => e = .returned (.bool true) ∧ Chg NoB w w' := by
  have h1 : (a != a) = false := by simp
  have h2 : (b != b) = false := by simp
  go_enter Try.func76, Try.ntmps76
  go_wp2
  go_ret
  exact ⟨rfl, ((Chg.refl _ _).alloc _).alloc _⟩

theorem info_links : (Try.prog.info? 64).map (fun i => (i.zero, i.size, i.bytes)) = some (some (.agg #[.int .i64 0, .int .i64 0]), 2, 16) := by kernel_rfl

theorem lcells_len (xs : List Lk) : (lcells xs).length = xs.length * 2 := flat_length Lk.enc_len xs
theorem lcells_take_succ (xs : List Lk) (k : Nat) (h : k < xs.length) : lcells (xs.take (k + 1)) = lcells (xs.take k) ++ [.int .i64 xs[k].names, .int .i64 xs[k].opens] := flat_take_succ xs k h

set_option maxRecDepth 100000 in
set_option maxHeartbeats 1000000 in
theorem toLinksS_any (F : Nat → Prop) (A : Option Addr) (c : Nat) (xs : List Lk) (w : World) (h : Rd F w A (lcells xs)) (hl : xs.length ≤ 1048576) :
    Calls Try.prog 47 #[.slice A xs.length c] w fun e w' => ∃ g, e = .returned (.slice (some ⟨g, 0, none⟩) xs.length xs.length) ∧ w.heap.size ≤ g ∧ Chg NoB w w' ∧ Blk w' g 64 (lcells xs).toArray := by
  obtain ⟨i0, hi, hz0, hz1, hz2⟩ := info_parts info_links
  have hmk := fun W => run_make_reps (P := Try.prog) 57 64 i0 (.agg #[.int .i64 0, .int .i64 0]) [.int .i64 0, .int .i64 0] Try.underlying57 hi hz0 rfl hz1 xs.length (by rw [hz2]; omega) (by omega) W
  go_enter Try.func47, Try.ntmps47
  go_wp2
  go_loopw [4] (fun i wr => ∃ k : Nat, k ≤ xs.length ∧ i = .int .i64 k ∧ Chg NoB w wr ∧ Blk wr w.heap.size 64 (lcells (xs.take k) ++ reps (xs.length - k) [.int .i64 0, .int .i64 0]).toArray) (fun i _ => xs.length - (intOf i).toNat)
  case atStart => exact ⟨0, Nat.zero_le _, rfl, (Chg.refl _ _).alloc _, Blk.new _ _ _⟩
  case round =>
    obtain ⟨k, hk, rfl, hch, hb⟩ := hrel
    by_cases hlt : k < xs.length
    · obtain ⟨bb, oo, rfl, hf, hbl, hc0, hc1⟩ := lk_at (h.lt.chg hch fun _ _ x => x) hlt
      obtain ⟨r, hr⟩ : ∃ r, xs.length - k = r + 1 := ⟨xs.length - k - 1, by omega⟩
      have hr1 : xs.length - (k + 1) = r := by omega
      rw [hr, reps_succ] at hb
      have hlen : (lcells (xs.take k)).length = k * 2 := by rw [lcells_len, List.length_take]; congr 1; omega
      have HT := Lib.hid (lcells_take_succ xs k hlt)
      have HR := Lib.hid hr1
      have HC := Lib.hid hch
      have HB := Lib.hid hb
      have HL := Lib.hid hlen
      clear hr hr1 hlen hb hch
      go_wp2_with fail
      refine (toLinks_any _ _ _).mono ?_
      rintro e w1 ⟨rfl, hc2⟩
      have hb1 := HB.out.chg hc2 (fun x => x)
      have hroom := hb1.room HL.out
      have hroom2 := Blk.roomAt (B := [.int .i64 0]) (j := 1) hb1 HL.out rfl
      have hfr := hb1.frozen (k * 2)
      have hfr2 := hb1.frozen (k * 2 + 1)
      have HF := Lib.hid (hb1.fill2 HL.out (.int .i64 xs[k].names) (.int .i64 xs[k].opens))
      have HC2 := Lib.hid (HC.out.trans hc2)
      clear hb1 hc2
      go_wp2
      go_roundw
      case rel =>
        refine ⟨k + 1, by omega, by go_num, (HC2.out.setCell (p := ⟨w.heap.size, k * 2, none⟩) (.inr (Nat.le_refl _)) _).setCell (p := ⟨w.heap.size, k * 2 + 1, none⟩) (.inr (Nat.le_refl _)) _, ?_⟩
        rw [HT.out, HR.out, List.append_assoc]
        exact HF.out
      case measure => simp [intOf]; omega
    · have hk' : k = xs.length := by omega
      subst hk'
      have HB := Lib.hid hb
      clear hb
      go_wp2
      go_ret
      refine ⟨_, rfl, Nat.le_refl _, hch, ?_⟩
      have := HB.out
      rwa [Nat.sub_self, reps_zero, List.append_nil, List.take_length] at this

set_option maxRecDepth 100000 in
set_option maxHeartbeats 2000000 in
theorem eqLinksS_t (F G : Nat → Prop) (A B : Option Addr) (c d : Nat) (xs : List Lk) (w : World) (h : Rd F w A (lcells xs)) (h' : Rd G w B (lcells xs)) (hl : xs.length ≤ 9223372036854775807) :
    Calls Try.prog 48 #[.slice A xs.length c, .slice B xs.length d] w fun e w' => e = .returned (.bool true) ∧ Chg NoB w w' := by
  have hne : ((xs.length : Int) != (xs.length : Int)) = false := by simp
  go_enter Try.func48, Try.ntmps48
  go_wp2
  go_loopw [5] (fun i wr => ∃ k : Nat, k ≤ xs.length ∧ i = .int .i64 k ∧ Chg NoB w wr) (fun i _ => xs.length - (intOf i).toNat)
  case atStart => exact ⟨0, Nat.zero_le _, rfl, Chg.refl _ _⟩
  case round =>
    obtain ⟨k, hk, rfl, hch⟩ := hrel
    by_cases hlt : k < xs.length
    · obtain ⟨bb, oo, rfl, hf, hbl, hc0, hc1⟩ := lk_at (h.chg hch fun _ _ x => x) hlt
      obtain ⟨bb', oo', rfl, hf', hbl', hc0', hc1'⟩ := lk_at (h'.chg hch fun _ _ x => x) hlt
      have hi0 : (0 : Int) ≤ (k : Int) := Int.natCast_nonneg _
      have hi1 : (k : Int) < (xs.length : Int) := by omega
      have HC := Lib.hid hch
      clear hch
      go_wp2
      go_region_held3 (fun w' => w'.cell? ⟨bb, oo + k * 2, none⟩ = some (.int .i64 xs[k].names) ∧ w'.cell? ⟨bb, oo + k * 2 + 1, none⟩ = some (.int .i64 xs[k].opens) ∧ w'.cell? ⟨bb', oo' + k * 2, none⟩ = some (.int .i64 xs[k].names) ∧ w'.cell? ⟨bb', oo' + k * 2 + 1, none⟩ = some (.int .i64 xs[k].opens))
        (first | go_keep | exact ⟨hcc.cell (by assumption) (fun x => x), hcc.cell (by assumption) (fun x => x), hcc.cell (by assumption) (fun x => x), hcc.cell (by assumption) (fun x => x)⟩)
        ((go_at_call 76; refine (eqLinks_t _ _ _).mono ?_; rintro e w' ⟨rfl, hcc⟩))
      go_wp2
      go_roundw
      case rel => exact ⟨k + 1, by omega, by go_num, (HC.out.drew).trans hcc⟩
      case measure => simp [intOf]; omega
    · go_wp2
      go_ret
      exact ⟨rfl, hch⟩
end Go.Proofs.Ytbgepefdfioljaa
