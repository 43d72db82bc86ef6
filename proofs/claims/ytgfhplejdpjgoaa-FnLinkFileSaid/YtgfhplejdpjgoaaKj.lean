/- sameLinks, sameInts, hasInt; laws on links: the walks. -/
import Derived.Test.YtgfhplejdpjgoaaKi
import Derived.Test.YtgfhplejdpjgoaaKg
namespace Go.Proofs.Ytgfhplejdpjgoaa
open Go.RowKit

set_option maxRecDepth 100000 in
set_option maxHeartbeats 2000000 in
theorem sameLinks_t (F G : Nat → Prop) (A B : Option Addr) (c d : Nat) (xs : List Lk) (w : World) (h : Rd F w A (lcells xs)) (h' : Rd G w B (lcells xs)) (hl : xs.length ≤ 9223372036854775807) :
    Calls Try.prog 36 #[.slice A xs.length c, .slice B xs.length d] w fun e w' => e = .returned (.bool true) ∧ Chg NoB w w' := by
  have hne : ((xs.length : Int) != (xs.length : Int)) = false := by simp
  go_enter Try.func36, Try.ntmps36
  go_wp2
  go_loopw [5] (fun i wr => ∃ k : Nat, k ≤ xs.length ∧ i = .int .i64 k ∧ Chg NoB w wr) (fun i _ => xs.length - (intOf i).toNat)
  case atStart => exact ⟨0, Nat.zero_le _, rfl, Chg.refl _ _⟩
  case round =>
    obtain ⟨k, hk, rfl, hch⟩ := hrel
    by_cases hlt : k < xs.length
    · obtain ⟨bb, oo, rfl, hf, hbl, hc0, hc1⟩ := lk_at (h.chg hch fun _ _ x => x) hlt
      obtain ⟨bb', oo', rfl, hf', hbl', hc0', hc1'⟩ := lk_at (h'.chg hch fun _ _ x => x) hlt
      have hi0 : (0 : Int) ≤ (k : Int) := Int.natCast_nonneg _
      have hi1 : (k : Int) < (xs.length : Int) := by omega
      have HC := Lib.hid hch
      clear hch
      go_wp2
      go_quiet (fail)
      go_wp2
      go_roundw
      case rel => exact ⟨k + 1, by omega, by go_num, HC.out.drewN _⟩
      case measure => simp [intOf]; omega
    · go_wp2
      go_ret
      exact ⟨rfl, hch⟩
theorem sameLinks_f (A B : Option Addr) (n m c d : Nat) (w : World) (hnm : n ≠ m) :
    Calls Try.prog 36 #[.slice A n c, .slice B m d] w fun e w' => e = .returned (.bool false) ∧ Chg NoB w w' := by
  have hne : ((n : Int) != (m : Int)) = true := by rw [bne_iff_ne]; omega
  go_enter Try.func36, Try.ntmps36
  go_wp2
  go_ret
  exact ⟨rfl, Chg.refl _ _⟩
set_option maxRecDepth 100000 in
set_option maxHeartbeats 1000000 in
theorem sameInts_t (F G : Nat → Prop) (A B : Option Addr) (c d : Nat) (xs : List Int) (w : World) (h : Rd F w A (icells xs)) (h' : Rd G w B (icells xs)) (hl : xs.length ≤ 9223372036854775807) :
    Calls Try.prog 46 #[.slice A xs.length c, .slice B xs.length d] w fun e w' => e = .returned (.bool true) ∧ Chg NoB w w' := by
  have hne : ((xs.length : Int) != (xs.length : Int)) = false := by simp
  go_enter Try.func46, Try.ntmps46
  go_wp2
  go_loopw [5] (fun i wr => ∃ k : Nat, k ≤ xs.length ∧ i = .int .i64 k ∧ Chg NoB w wr) (fun i _ => xs.length - (intOf i).toNat)
  case atStart => exact ⟨0, Nat.zero_le _, rfl, Chg.refl _ _⟩
  case round =>
    obtain ⟨k, hk, rfl, hch⟩ := hrel
    by_cases hlt : k < xs.length
    · obtain ⟨ad, rfl, hf, hbl, hc⟩ := ints_at (h.chg hch fun _ _ x => x) hlt
      obtain ⟨ad', rfl, hf', hbl', hc'⟩ := ints_at (h'.chg hch fun _ _ x => x) hlt
      have hi0 : (0 : Int) ≤ (k : Int) := Int.natCast_nonneg _
      have hi1 : (k : Int) < (xs.length : Int) := by omega
      have HC := Lib.hid hch
      clear hch
      go_wp2
      go_quiet (fail)
      go_wp2
      go_roundw
      case rel => exact ⟨k + 1, by omega, by go_num, HC.out.drewN _⟩
      case measure => simp [intOf]; omega
    · go_wp2
      go_ret
      exact ⟨rfl, hch⟩
def HasI (w : World) (xs : List Int) (n : Int) (e : Ending) (w' : World) : Prop := ∃ b : Bool, e = .returned (.bool b) ∧ (b = true ↔ n ∈ xs) ∧ w = w'
set_option maxHeartbeats 1000000 in
theorem hasInt_any (F : Nat → Prop) (A : Option Addr) (c : Nat) (xs : List Int) (n : Int) (w : World) (h : Rd F w A (icells xs)) (hl : xs.length ≤ 9223372036854775807) :
    Calls Try.prog 47 #[.slice A xs.length c, .int .i64 n] w (HasI w xs n) := by
  go_enter Try.func47, Try.ntmps47
  go_wp2
  go_loop [5] (fun i => ∃ k : Nat, k ≤ xs.length ∧ i = .int .i64 k ∧ Hid (n ∉ xs.take k)) (fun i => xs.length - (intOf i).toNat)
  case atStart => exact ⟨0, Nat.zero_le _, rfl, Lib.hid (by simp)⟩
  case round =>
    obtain ⟨k, hk, rfl, hn⟩ := hrel
    by_cases hlt : k < xs.length
    · obtain ⟨ad, rfl, hf, hbl, hc⟩ := ints_at h hlt
      by_cases he : xs[k] = n
      · have he' : (xs[k] == n) = true := beq_iff_eq.2 he
        have HE := Lib.hid he
        clear he
        go_wp2
        go_ret
        exact ⟨true, rfl, by simp; rw [← HE.out]; exact List.getElem_mem hlt, rfl⟩
      · have he' : (xs[k] == n) = false := beq_eq_false_iff_ne.2 he
        have HN := Lib.hid (show n ∉ xs.take (k + 1) by
          rw [List.take_succ_eq_append_getElem hlt]
          intro hm
          rcases List.mem_append.1 hm with h1 | h1
          · exact hn.out h1
          · simp at h1; exact he h1.symm)
        clear he
        go_wp2
        go_round
        case rel => exact ⟨k + 1, by omega, by go_num, HN⟩
        case measure => simp [intOf]; omega
    · go_wp2
      go_ret
      exact ⟨false, rfl, by have := hn.out; rw [List.take_of_length_le (by omega)] at this; simpa using this, rfl⟩

theorem ok_close {xs : List Lk} (h : linksOk xs) : linksOk (xs.map Lk.close) := by
  refine ⟨by rw [List.length_map]; exact h.1, fun x hx => ?_⟩
  obtain ⟨y, hy, rfl⟩ := List.mem_map.1 hx
  obtain ⟨a, b, _, _⟩ := h.2 y hy
  exact ⟨a, b, by simp [Lk.close], by simp [Lk.close]⟩
set_option maxRecDepth 100000 in
set_option maxHeartbeats 2000000 in
theorem FnLinksValid_any (A : Option Addr) (c : Nat) (bs : List Nat) (w : World) (h : Rd (fun i => i < w.heap.size) w A (bs.map fun (b : Nat) => Value.int .u8 (b : Int))) (hx : ∀ b ∈ bs, b < 256) (hc : bs.length ≤ c) (_hm : c ≤ maxLen) :
    Calls Try.prog 7 #[.slice A bs.length c] w fun e w' => e = .returned (.bool true) ∧ Chg NoB w w' := by
  by_cases hl : 1048576 < bs.length
  · go_enter Try.func7, Try.ntmps7
    go_wp2
    go_ret
    exact ⟨rfl, Chg.refl _ _⟩
  have hl' : bs.length ≤ 1048576 := by omega
  go_enter Try.func7, Try.ntmps7
  go_wp2_with fail
  refine (DrawLinksValid_any A c bs w h hx hc).mono ?_
  rintro e w1 ⟨A', c', xs, rfl, hrd, hle, h8, hc1⟩
  go_wp2_with fail
  refine (iLinksValid_any _ A' c' xs _ hrd).mono ?_
  rintro e w2 ⟨b, rfl, hb, hc2⟩
  have hrd2 := hrd.lt.chg hc2 (fun _ _ x => x)
  go_wp2_with fail
  refine (sLinksValid_any _ A' c' xs _ hrd2 (by omega)).mono ?_
  rintro e w3 ⟨b', rfl, hb', hc3⟩
  obtain rfl : b' = b := by rw [Bool.eq_iff_iff, hb, hb']
  have hrd3 := hrd2.chg hc3 (fun _ _ x => x)
  have HC3 := Lib.hid ((hc1.trans hc2).trans hc3)
  have HB := Lib.hid hb
  clear hb hb' hc1 hc2 hc3
  cases b'
  · go_wp2_with fail
    refine (alive_any _).mono ?_
    rintro e w' ⟨rfl, rfl⟩
    go_wp2
    go_ret
    exact ⟨rfl, HC3.out⟩
  · have hok : linksOk xs := HB.out.1 rfl
    have h80 : 0 < xs.length := by rw [hok.1]; omega
    have h88 : 8 ≤ xs.length := by rw [hok.1]; omega
    have HOK := Lib.hid hok
    clear hok
    obtain ⟨bb, oo, rfl, hf, hbl, hc0, hc1'⟩ := lk_at hrd3 h80
    have hcne : ¬ c' = 1 := by omega
    have hrd7 : Rd (fun i => i < w3.heap.size) w3 (some ⟨bb, oo + 2, none⟩) (lcells (xs.drop 1)) := by
      intro q u hq
      obtain ⟨ad, e, hf, hcell⟩ := hrd3.lt (2 + q) u (by rw [← hq, show lcells xs = _ from lcells_drop xs 0 h80, Nat.add_comm 2 q]; rfl)
      cases e
      exact ⟨_, rfl, hf.2, by rw [← hcell]; congr 1; rw [← add_add']; congr 1⟩
    have h7 : (xs.drop 1).length = xs.length - 1 := by simp
    have hcv := iLinksValid_any _ (some ⟨bb, oo + 2, none⟩) (c' - 1) (xs.drop 1) _ hrd7
    rw [h7] at hcv
    have h81 : 1 ≤ xs.length := by omega
    go_wp2_with fail
    refine hcv.mono ?_
    rintro e w4 ⟨b4, rfl, hb4, hc4⟩
    obtain rfl : b4 = false := by
      cases b4
      · rfl
      · have := (hb4.1 rfl).1; rw [h7, HOK.out.1] at this; omega
    clear hcv hb4
    go_wp2_with fail
    refine (iCloseAll_any _ _ c' xs _ (hrd3.chg hc4 (fun _ _ x => x))).mono ?_
    rintro e w5 ⟨A5, c5, ys, rfl, ho5, hy, hc5⟩
    have hy' := hy.1 HOK.out
    have hyok : linksOk ys := by rw [hy']; exact ok_close HOK.out
    clear hy hy'
    go_wp2_with fail
    refine (iLinksValid_any _ A5 c5 ys _ ho5.rd).mono ?_
    rintro e w6 ⟨b6, rfl, hb6, hc6⟩
    obtain rfl : b6 = true := hb6.2 hyok
    go_wp2
    go_ret
    exact ⟨rfl, ((HC3.out.trans hc4).trans hc5).trans hc6⟩
end Go.Proofs.Ytgfhplejdpjgoaa
