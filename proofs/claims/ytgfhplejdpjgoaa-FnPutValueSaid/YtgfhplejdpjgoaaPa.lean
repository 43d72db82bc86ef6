/- The laws' helpers on writes: sizes, copies, comparisons; FnExactPutsValid, FnExactPutValue: the walks. -/
import Derived.Test.YtgfhplejdpjgoaaP
import Derived.Deep.RegionHeld3
namespace Go.Proofs.Ytgfhplejdpjgoaa
open Go.RowKit

theorem szPutS_any (A : Option Addr) (n c : Nat) (w : World) (hn : n ≤ maxLen) :
    Calls Try.prog 20 #[.slice A n c, .int .i64 1048576] w fun e w' => ∃ x : Int, e = .returned (.int .i64 x) ∧ (x < 0 ↔ 1048576 < n) ∧ w = w' := by
  unfold maxLen at hn
  by_cases h : 1048576 < n
  · go_enter Try.func20, Try.ntmps20
    go_wp2
    go_ret
    exact ⟨-1, rfl, by omega, rfl⟩
  · go_enter Try.func20, Try.ntmps20
    go_wp2
    go_ret
    exact ⟨_, rfl, by omega, rfl⟩

theorem toPut_any (a b c : Int) (w : World) :
    Calls Try.prog 51 #[.agg #[.int .i64 a, .int .i64 b, .int .i64 c]] w fun e w' => e = .returned (.agg #[.int .i64 a, .int .i64 b, .int .i64 c]) ∧ Chg NoB w w' := by
  go_enter Try.func51, Try.ntmps51
  go_wp2
  refine bodyPost_ret (v := .agg #[.int .i64 a, .int .i64 b, .int .i64 c]) (by simp [results, Try.results51, go_sem]) rfl ⟨rfl, ?_⟩
  exact (((Chg.refl _ _).alloc _).alloc _).alloc _

theorem eqPut_t (a b c : Int) (w : World) :
    Calls Try.prog 52 #[.agg #[.int .i64 a, .int .i64 b, .int .i64 c], .agg #[.int .i64 a, .int .i64 b, .int .i64 c]] w fun e w' => e = .returned (.bool true) ∧ Chg NoB w w' := by
  have h1 : (a != a) = false := by simp
  have h2 : (b != b) = false := by simp
  have h3 : (c != c) = false := by simp
  go_enter Try.func52, Try.ntmps52
  go_wp2
  go_ret
  exact ⟨rfl, ((Chg.refl _ _).alloc _).alloc _⟩

theorem info_put : (Try.prog.info? 39).map (fun i => (i.zero, i.size, i.bytes)) = some (some (.agg #[.int .i64 0, .int .i64 0, .int .i64 0]), 3, 24) := by kernel_rfl

theorem pcells_len (xs : List Pt) : (pcells xs).length = xs.length * 3 := flat_length Pt.enc_len xs
theorem pcells_take_succ (xs : List Pt) (k : Nat) (h : k < xs.length) : pcells (xs.take (k + 1)) = pcells (xs.take k) ++ [.int .i64 xs[k].file, .int .i64 xs[k].place, .int .i64 xs[k].value] := flat_take_succ xs k h

set_option maxRecDepth 100000 in
set_option maxHeartbeats 1000000 in
theorem toPutS_any (F : Nat → Prop) (A : Option Addr) (c : Nat) (xs : List Pt) (w : World) (h : Rd F w A (pcells xs)) (hl : xs.length ≤ 1048576) :
    Calls Try.prog 22 #[.slice A xs.length c] w fun e w' => ∃ g, e = .returned (.slice (some ⟨g, 0, none⟩) xs.length xs.length) ∧ w.heap.size ≤ g ∧ Chg NoB w w' ∧ Blk w' g 39 (pcells xs).toArray := by
  obtain ⟨i0, hi, hz0, hz1, hz2⟩ := info_parts info_put
  have hmk := fun W => run_make_reps (P := Try.prog) 32 39 i0 (.agg #[.int .i64 0, .int .i64 0, .int .i64 0]) [.int .i64 0, .int .i64 0, .int .i64 0] Try.underlying32 hi hz0 rfl hz1 xs.length (by rw [hz2]; omega) (by omega) W
  go_enter Try.func22, Try.ntmps22
  go_wp2
  go_loopw [4] (fun i wr => ∃ k : Nat, k ≤ xs.length ∧ i = .int .i64 k ∧ Chg NoB w wr ∧ Blk wr w.heap.size 39 (pcells (xs.take k) ++ reps (xs.length - k) [.int .i64 0, .int .i64 0, .int .i64 0]).toArray) (fun i _ => xs.length - (intOf i).toNat)
  case atStart => exact ⟨0, Nat.zero_le _, rfl, (Chg.refl _ _).alloc _, Blk.new _ _ _⟩
  case round =>
    obtain ⟨k, hk, rfl, hch, hb⟩ := hrel
    by_cases hlt : k < xs.length
    · obtain ⟨bb, oo, rfl, hf, hbl, hc0, hc1, hc2⟩ := pt_at (h.lt.chg hch fun _ _ x => x) hlt
      obtain ⟨r, hr⟩ : ∃ r, xs.length - k = r + 1 := ⟨xs.length - k - 1, by omega⟩
      have hr1 : xs.length - (k + 1) = r := by omega
      rw [hr, reps_succ] at hb
      have hlen : (pcells (xs.take k)).length = k * 3 := by rw [pcells_len, List.length_take]; congr 1; omega
      have HT := Lib.hid (pcells_take_succ xs k hlt)
      have HR := Lib.hid hr1
      have HC := Lib.hid hch
      have HB := Lib.hid hb
      have HL := Lib.hid hlen
      clear hr hr1 hlen hb hch
      go_wp2_with fail
      refine (toPut_any _ _ _ _).mono ?_
      rintro e w1 ⟨rfl, hcx⟩
      have hb1 := HB.out.chg hcx (fun x => x)
      have hroom := hb1.room HL.out
      have hroom2 := Blk.roomAt (B := [.int .i64 0]) (j := 1) hb1 HL.out rfl
      have hroom3 := Blk.roomAt (B := [.int .i64 0, .int .i64 0]) (j := 2) hb1 HL.out rfl
      have hfr := hb1.frozen (k * 3)
      have hfr2 := hb1.frozen (k * 3 + 1)
      have hfr3 := hb1.frozen (k * 3 + 2)
      have HF := Lib.hid (hb1.fill3 HL.out (.int .i64 xs[k].file) (.int .i64 xs[k].place) (.int .i64 xs[k].value))
      have HC2 := Lib.hid (HC.out.trans hcx)
      clear hb1 hcx
      go_wp2
      go_roundw
      case rel =>
        refine ⟨k + 1, by omega, by go_num, ((HC2.out.setCell (p := ⟨w.heap.size, k * 3, none⟩) (.inr (Nat.le_refl _)) _).setCell (p := ⟨w.heap.size, k * 3 + 1, none⟩) (.inr (Nat.le_refl _)) _).setCell (p := ⟨w.heap.size, k * 3 + 2, none⟩) (.inr (Nat.le_refl _)) _, ?_⟩
        rw [HT.out, HR.out, List.append_assoc]
        exact HF.out
      case measure => simp [intOf]; omega
    · have hk' : k = xs.length := by omega
      subst hk'
      have HB := Lib.hid hb
      clear hb
      go_wp2
      go_ret
      refine ⟨_, rfl, Nat.le_refl _, hch, ?_⟩
      have := HB.out
      rwa [Nat.sub_self, reps_zero, List.append_nil, List.take_length] at this

set_option maxRecDepth 100000 in
set_option maxHeartbeats 2000000 in
theorem eqPutS_t (F G : Nat → Prop) (A B : Option Addr) (c d : Nat) (xs : List Pt) (w : World) (h : Rd F w A (pcells xs)) (h' : Rd G w B (pcells xs)) (hl : xs.length ≤ 9223372036854775807) :
    Calls Try.prog 24 #[.slice A xs.length c, .slice B xs.length d] w fun e w' => e = .returned (.bool true) ∧ Chg NoB w w' := by
  have hne : ((xs.length : Int) != (xs.length : Int)) = false := by simp
  go_enter Try.func24, Try.ntmps24
  go_wp2
  go_loopw [5] (fun i wr => ∃ k : Nat, k ≤ xs.length ∧ i = .int .i64 k ∧ Chg NoB w wr) (fun i _ => xs.length - (intOf i).toNat)
  case atStart => exact ⟨0, Nat.zero_le _, rfl, Chg.refl _ _⟩
  case round =>
    obtain ⟨k, hk, rfl, hch⟩ := hrel
    by_cases hlt : k < xs.length
    · obtain ⟨bb, oo, rfl, hf, hbl, hc0, hc1, hc2⟩ := pt_at (h.chg hch fun _ _ x => x) hlt
      obtain ⟨bb', oo', rfl, hf', hbl', hc0', hc1', hc2'⟩ := pt_at (h'.chg hch fun _ _ x => x) hlt
      have hi0 : (0 : Int) ≤ (k : Int) := Int.natCast_nonneg _
      have hi1 : (k : Int) < (xs.length : Int) := by omega
      have HC := Lib.hid hch
      clear hch
      go_wp2
      go_region_held3 (fun w' => w'.cell? ⟨bb, oo + k * 3, none⟩ = some (.int .i64 xs[k].file) ∧ w'.cell? ⟨bb, oo + k * 3 + 1, none⟩ = some (.int .i64 xs[k].place) ∧ w'.cell? ⟨bb, oo + k * 3 + 2, none⟩ = some (.int .i64 xs[k].value) ∧ w'.cell? ⟨bb', oo' + k * 3, none⟩ = some (.int .i64 xs[k].file) ∧ w'.cell? ⟨bb', oo' + k * 3 + 1, none⟩ = some (.int .i64 xs[k].place) ∧ w'.cell? ⟨bb', oo' + k * 3 + 2, none⟩ = some (.int .i64 xs[k].value))
        (first | go_keep | exact ⟨hcc.cell (by assumption) (fun x => x), hcc.cell (by assumption) (fun x => x), hcc.cell (by assumption) (fun x => x), hcc.cell (by assumption) (fun x => x), hcc.cell (by assumption) (fun x => x), hcc.cell (by assumption) (fun x => x)⟩)
        ((go_at_call 52; refine (eqPut_t _ _ _ _).mono ?_; rintro e w' ⟨rfl, hcc⟩))
      go_wp2
      go_roundw
      case rel => exact ⟨k + 1, by omega, by go_num, (HC.out.drew).trans hcc⟩
      case measure => simp [intOf]; omega
    · go_wp2
      go_ret
      exact ⟨rfl, hch⟩

set_option maxHeartbeats 1000000 in
theorem FnExactPutsValid_any (A : Option Addr) (c : Nat) (xs : List Pt) (w : World) (h : Rd (fun i => i < w.heap.size) w A (pcells xs)) (hc : xs.length ≤ c) (hm : c ≤ maxLen) :
    Calls Try.prog 4 #[.slice A xs.length c] w fun e w' => e = .returned (.bool true) ∧ Chg NoB w w' := by
  go_enter Try.func4, Try.ntmps4
  go_wp2_with fail
  refine (szPutS_any A xs.length c w (by omega)).mono ?_
  rintro e w' ⟨x, rfl, hx, rfl⟩
  by_cases hl : 1048576 < xs.length
  · have hx0 : x < 0 := hx.2 hl
    go_wp2
    go_ret
    exact ⟨rfl, Chg.refl _ _⟩
  have hl' : xs.length ≤ 1048576 := by omega
  have hx0 : ¬ x < 0 := fun hh => hl (hx.1 hh)
  clear hx
  go_wp2_with fail
  refine (toPutS_any _ A c xs w h hl').mono ?_
  rintro e w1 ⟨g1, rfl, hg1, hc1, hb1⟩
  go_wp2_with fail
  refine (sPutsValid_any _ _ _ xs _ hb1.rd (by omega)).mono ?_
  rintro e w2 ⟨b, rfl, hb, hc2⟩
  go_wp2_with fail
  refine (toPutS_any _ A c xs w2 (h.chg (hc1.trans hc2) fun _ _ x => x) hl').mono ?_
  rintro e w3 ⟨g3, rfl, hg3, hc3, hb3⟩
  go_wp2_with fail
  refine (iPutsValid_any _ _ _ xs _ hb3.rd).mono ?_
  rintro e w4 ⟨b', rfl, hb', hc4⟩
  obtain rfl : b = b' := by rw [Bool.eq_iff_iff, hb, hb']
  clear hb hb'
  go_wp2_with fail
  refine (toPutS_any _ A c xs w4 (h.chg (((hc1.trans hc2).trans hc3).trans hc4) fun _ _ x => x) hl').mono ?_
  rintro e w5 ⟨g5, rfl, hg5, hc5, hb5⟩
  go_wp2_with fail
  refine (eqPutS_t _ _ _ _ _ _ xs _ ((hb3.chg hc4 (fun x => x)).chg hc5 (fun x => x)).rd hb5.rd (by omega)).mono ?_
  rintro e w6 ⟨rfl, hc6⟩
  go_wp2
  go_ret
  exact ⟨rfl, ((((hc1.trans hc2).trans hc3).trans hc4).trans hc5).trans hc6⟩

set_option maxHeartbeats 1000000 in
theorem FnExactPutValue_any (A : Option Addr) (c : Nat) (xs : List Pt) (f p : Int) (w : World) (h : Rd (fun i => i < w.heap.size) w A (pcells xs)) (hc : xs.length ≤ c) (hm : c ≤ maxLen) :
    Calls Try.prog 6 #[.slice A xs.length c, .int .i64 f, .int .i64 p] w fun e w' => e = .returned (.bool true) ∧ Chg NoB w w' := by
  go_enter Try.func6, Try.ntmps6
  go_wp2_with fail
  refine (szPutS_any A xs.length c w (by omega)).mono ?_
  rintro e w' ⟨x, rfl, hx, rfl⟩
  by_cases hl : 1048576 < xs.length
  · have hx0 : x < 0 := hx.2 hl
    go_wp2
    go_ret
    exact ⟨rfl, Chg.refl _ _⟩
  have hl' : xs.length ≤ 1048576 := by omega
  have hx0 : ¬ x < 0 := fun hh => hl (hx.1 hh)
  clear hx
  go_wp2_with fail
  refine (toPutS_any _ A c xs w h hl').mono ?_
  rintro e w1 ⟨g1, rfl, hg1, hc1, hb1⟩
  go_wp2_with fail
  refine (sPutValue_any _ _ _ xs f p _ hb1.rd (by omega)).mono ?_
  rintro e w2 ⟨b, rfl, hb, hbn, hc2⟩
  go_wp2_with fail
  refine (toPutS_any _ A c xs w2 (h.chg (hc1.trans hc2) fun _ _ x => x) hl').mono ?_
  rintro e w3 ⟨g3, rfl, hg3, hc3, hb3⟩
  go_wp2_with fail
  refine (iPutValue_any _ _ _ xs f p _ hb3.rd).mono ?_
  rintro e w4 ⟨b', rfl, hb', hbn', hc4⟩
  obtain rfl : b = b' := by
    by_cases hok : putsOk xs
    · rw [hb hok, hb' hok]
    · rw [hbn hok, hbn' hok]
  clear hb hb' hbn hbn'
  have hbb : (b != b) = false := by simp
  go_wp2_with fail
  refine (toPutS_any _ A c xs w4 (h.chg (((hc1.trans hc2).trans hc3).trans hc4) fun _ _ x => x) hl').mono ?_
  rintro e w5 ⟨g5, rfl, hg5, hc5, hb5⟩
  go_wp2_with fail
  refine (eqPutS_t _ _ _ _ _ _ xs _ ((hb3.chg hc4 (fun x => x)).chg hc5 (fun x => x)).rd hb5.rd (by omega)).mono ?_
  rintro e w6 ⟨rfl, hc6⟩
  go_wp2
  go_ret
  exact ⟨rfl, ((((hc1.trans hc2).trans hc3).trans hc4).trans hc5).trans hc6⟩

end Go.Proofs.Ytgfhplejdpjgoaa
