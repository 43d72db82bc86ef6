/- SaveSum of the program and of the reference. -/
import Derived.Test.YtbgepefdfioljaaT
namespace Go.Proofs.Ytbgepefdfioljaa
open Go.RowKit
def sumTo (n : Int) (xs : List Int) : Int := xs.foldl (fun s x => (127 * s + x + 2) % 99991) (n % 99991)
def sumArgs (n : Int) (xs : List Int) : Prop := 0 ≤ n ∧ n ≤ 1000000 ∧ xs.length ≤ 48 ∧ ∀ x ∈ xs, -1 ≤ x ∧ x ≤ 47
open Classical in
noncomputable def saveSum (n : Int) (xs : List Int) : Int := if sumArgs n xs then sumTo n xs else -1
theorem saveSum_t {n : Int} {xs : List Int} (h : sumArgs n xs) : saveSum n xs = sumTo n xs := if_pos h
theorem saveSum_f {n : Int} {xs : List Int} (h : ¬ sumArgs n xs) : saveSum n xs = -1 := if_neg h
theorem sumTo_range (n : Int) (xs : List Int) : 0 ≤ sumTo n xs ∧ sumTo n xs < 99991 := by
  have : ∀ (l : List Int) (v : Int), 0 ≤ v → v < 99991 → 0 ≤ l.foldl (fun s x => (127 * s + x + 2) % 99991) v ∧ l.foldl (fun s x => (127 * s + x + 2) % 99991) v < 99991 := by
    intro l
    induction l with
    | nil => intro v h1 h2; exact ⟨h1, h2⟩
    | cons x l ih => intro v h1 h2; rw [List.foldl_cons]; exact ih _ (by omega) (by omega)
  exact this xs _ (by omega) (by omega)
theorem sumTo_snoc (n : Int) (xs : List Int) (x : Int) : sumTo n (xs ++ [x]) = (127 * sumTo n xs + x + 2) % 99991 := by unfold sumTo; rw [List.foldl_append]; rfl
theorem sumTo_succ (n : Int) (xs : List Int) (k : Nat) (h : k < xs.length) : sumTo n (xs.take (k + 1)) = (127 * sumTo n (xs.take k) + xs[k] + 2) % 99991 := by
  rw [List.take_succ_eq_append_getElem h, sumTo_snoc]
theorem saveSum_lo (n : Int) (xs : List Int) : -1 ≤ saveSum n xs ∧ saveSum n xs < 99991 := by
  by_cases h : sumArgs n xs
  · rw [saveSum_t h]; have := sumTo_range n xs; omega
  · rw [saveSum_f h]; omega
def SumP (w : World) (n : Int) (xs : List Int) (e : Ending) (w' : World) : Prop := ∃ s : Int, e = .returned (.int .i64 s) ∧ Hid (s = saveSum n xs) ∧ w = w'
theorem SumP.mk {w : World} {n s : Int} {xs : List Int} (h : s = saveSum n xs) : SumP w n xs (.returned (.int .i64 s)) w := ⟨s, rfl, Lib.hid h, rfl⟩
theorem pages_take_succ {xs : List Int} {k : Nat} (h : k < xs.length) (ha : ∀ x ∈ xs.take k, -1 ≤ x ∧ x ≤ 47) (hk : -1 ≤ xs[k] ∧ xs[k] ≤ 47) : ∀ x ∈ xs.take (k + 1), -1 ≤ x ∧ x ≤ 47 := by
  rw [List.take_succ_eq_append_getElem h]
  intro x hx
  rcases List.mem_append.1 hx with h1 | h1
  · exact ha x h1
  · simp at h1; subst h1; exact hk

set_option maxRecDepth 100000 in
set_option maxHeartbeats 1000000 in
theorem iSaveSum_any (F : Nat → Prop) (A : Option Addr) (c : Nat) (n : Int) (xs : List Int) (w : World) (h : Rd F w A (icells xs)) :
    Calls Try.prog 15 #[.int .i64 n, .slice A xs.length c] w (SumP w n xs) := by
  by_cases h1 : n < 0
  · have HS := Lib.hid (saveSum_f (xs := xs) (fun hh : sumArgs n xs => by have := hh.1; omega))
    go_enter Try.func15, Try.ntmps15
    go_wp2
    go_ret
    exact SumP.mk HS.out.symm
  by_cases h2 : 1000000 < n
  · have HS := Lib.hid (saveSum_f (xs := xs) (fun hh : sumArgs n xs => by have := hh.2.1; omega))
    go_enter Try.func15, Try.ntmps15
    go_wp2
    go_ret
    exact SumP.mk HS.out.symm
  by_cases h3 : 48 < xs.length
  · have HS := Lib.hid (saveSum_f (xs := xs) (fun hh : sumArgs n xs => by have := hh.2.2.1; omega))
    go_enter Try.func15, Try.ntmps15
    go_wp2
    go_ret
    exact SumP.mk HS.out.symm
  have hn0 : 0 ≤ n := by omega
  go_enter Try.func15, Try.ntmps15
  go_wp2
  go_loop [5, 23] (fun s i => ∃ (k : Nat) (v : Int), k ≤ xs.length ∧ i = .int .i64 k ∧ s = .int .i64 v ∧ 0 ≤ v ∧ v < 99991 ∧ Hid (v = sumTo n (xs.take k) ∧ ∀ x ∈ xs.take k, -1 ≤ x ∧ x ≤ 47)) (fun _ i => xs.length - (intOf i).toNat)
  case atStart => exact ⟨0, n % 99991, Nat.zero_le _, rfl, rfl, by omega, by omega, Lib.hid ⟨by simp [sumTo], by simp⟩⟩
  case round =>
    obtain ⟨k, v, hk, rfl, rfl, hv0, hv1, hv⟩ := hrel
    by_cases hlt : k < xs.length
    · obtain ⟨ad, rfl, hf, hbl, hc⟩ := ints_at h hlt
      by_cases hx : -1 ≤ xs[k] ∧ xs[k] ≤ 47
      · have HP := Lib.hid (pages_take_succ hlt hv.out.2 hx)
        have HV := Lib.hid (show (127 * v + xs[k] + 2) % 99991 = sumTo n (xs.take (k + 1)) by rw [sumTo_succ n xs k hlt, hv.out.1])
        have HX := Lib.hid hx
        obtain ⟨hx0, hx1⟩ := hx
        go_wp2_with fail
        refine (pageNumber_t _ _ HX.out).mono ?_
        rintro e w' ⟨rfl, rfl⟩
        have hnn : 0 ≤ 127 * v + xs[k] + 2 := by omega
        go_wp2
        go_round
        case rel => exact ⟨k + 1, (127 * v + xs[k] + 2) % 99991, by omega, by go_num, by go_num, by omega, by omega, Lib.hid ⟨HV.out, HP.out⟩⟩
        case measure => simp [intOf]; omega
      · have HS := Lib.hid (saveSum_f (n := n) (xs := xs) (fun hh => hx (hh.2.2.2 _ (List.getElem_mem hlt))))
        go_wp2_with fail
        refine (pageNumber_f _ _ hx).mono ?_
        rintro e w' ⟨rfl, rfl⟩
        clear hx
        go_wp2
        go_ret
        exact SumP.mk HS.out.symm
    · have hk' : k = xs.length := by omega
      subst hk'
      go_wp2
      go_ret
      have hv' := hv.out
      rw [List.take_length] at hv'
      exact SumP.mk (by rw [saveSum_t ⟨by omega, by omega, by omega, hv'.2⟩, hv'.1])

set_option maxRecDepth 100000 in
set_option maxHeartbeats 1000000 in
theorem sSaveSum_any (F : Nat → Prop) (A : Option Addr) (c : Nat) (n : Int) (xs : List Int) (w : World) (h : Rd F w A (icells xs)) :
    Calls Try.prog 13 #[.int .i64 n, .slice A xs.length c] w (SumP w n xs) := by
  by_cases h1 : 0 ≤ n ∧ n ≤ 1000000
  case neg =>
    have HS := Lib.hid (saveSum_f (xs := xs) (fun hh : sumArgs n xs => h1 ⟨hh.1, hh.2.1⟩))
    go_enter Try.func13, Try.ntmps13
    go_wp2_with fail
    refine (l1In_f _ 0 1000000 _ h1).mono ?_
    rintro e w' ⟨rfl, rfl⟩
    go_wp2
    go_ret
    exact SumP.mk HS.out.symm
  have H1 := Lib.hid h1
  obtain ⟨h1a, h1b⟩ := h1
  by_cases h3 : 48 < xs.length
  · have HS := Lib.hid (saveSum_f (xs := xs) (fun hh : sumArgs n xs => by have := hh.2.2.1; omega))
    go_enter Try.func13, Try.ntmps13
    go_wp2_with fail
    refine (l1In_t _ 0 1000000 _ H1.out).mono ?_
    rintro e w' ⟨rfl, rfl⟩
    go_wp2
    go_ret
    exact SumP.mk HS.out.symm
  go_enter Try.func13, Try.ntmps13
  go_wp2_with fail
  refine (l1In_t _ 0 1000000 _ H1.out).mono ?_
  rintro e w' ⟨rfl, rfl⟩
  go_wp2
  go_loop [5, 6] (fun s i => ∃ (k : Nat) (v : Int), k ≤ xs.length ∧ i = .int .i64 k ∧ s = .int .i64 v ∧ 0 ≤ v ∧ v < 99991 ∧ Hid (v = sumTo n (xs.take k) ∧ ∀ x ∈ xs.take k, -1 ≤ x ∧ x ≤ 47)) (fun _ i => xs.length - (intOf i).toNat)
  case atStart => exact ⟨0, n % 99991, Nat.zero_le _, rfl, rfl, by omega, by omega, Lib.hid ⟨by simp [sumTo], by simp⟩⟩
  case round =>
    obtain ⟨k, v, hk, rfl, rfl, hv0, hv1, hv⟩ := hrel
    by_cases hlt : k < xs.length
    · obtain ⟨ad, rfl, hf, hbl, hc⟩ := ints_at h hlt
      by_cases hx : -1 ≤ xs[k] ∧ xs[k] ≤ 47
      · have HP := Lib.hid (pages_take_succ hlt hv.out.2 hx)
        have HV := Lib.hid (show (127 * v + xs[k] + 2) % 99991 = sumTo n (xs.take (k + 1)) by rw [sumTo_succ n xs k hlt, hv.out.1])
        have HX := Lib.hid hx
        obtain ⟨hx0, hx1⟩ := hx
        go_wp2_with fail
        refine (l1In_t _ (-1) 47 _ HX.out).mono ?_
        rintro e w' ⟨rfl, rfl⟩
        have hnn : 0 ≤ 127 * v + xs[k] + 2 := by omega
        go_wp2
        go_round
        case rel => exact ⟨k + 1, (127 * v + xs[k] + 2) % 99991, by omega, by go_num, by go_num, by omega, by omega, Lib.hid ⟨HV.out, HP.out⟩⟩
        case measure => simp [intOf]; omega
      · have HS := Lib.hid (saveSum_f (n := n) (xs := xs) (fun hh => hx (hh.2.2.2 _ (List.getElem_mem hlt))))
        go_wp2_with fail
        refine (l1In_f _ (-1) 47 _ hx).mono ?_
        rintro e w' ⟨rfl, rfl⟩
        clear hx
        go_wp2
        go_ret
        exact SumP.mk HS.out.symm
    · have hk' : k = xs.length := by omega
      subst hk'
      go_wp2
      go_ret
      have hv' := hv.out
      rw [List.take_length] at hv'
      exact SumP.mk (by rw [saveSum_t ⟨by omega, by omega, by omega, hv'.2⟩, hv'.1])
set_option maxRecDepth 100000 in
set_option maxHeartbeats 1000000 in
theorem FnExactSaveSum_any (n : Int) (A : Option Addr) (c : Nat) (xs : List Int) (w : World) (h : Rd (fun i => i < w.heap.size) w A (xs.map (Value.int .i64))) (hc : xs.length ≤ c) (hm : c ≤ maxLen) :
    Calls Try.prog 3 #[.int .i64 n, .slice A xs.length c] w fun e w' => e = .returned (.bool true) ∧ Chg NoB w w' := by
  have hm' : xs.length ≤ 9223372036854775807 := by unfold maxLen at hm; omega
  by_cases hl : 1048576 < xs.length
  · go_enter Try.func3, Try.ntmps3
    go_wp2
    go_ret
    exact ⟨rfl, Chg.refl _ _⟩
  have hl' : xs.length ≤ 1048576 := by omega
  go_enter Try.func3, Try.ntmps3
  go_wp2_with fail
  refine (toIntS_any _ A c xs _ h hl').mono ?_
  rintro e w1 ⟨g1, rfl, -, hc1, hb1⟩
  go_wp2_with fail
  refine (sSaveSum_any _ _ _ n xs _ hb1.rd).mono ?_
  rintro e w' ⟨s, rfl, hs, rfl⟩
  go_wp2_with fail
  refine (toIntS_any _ A c xs _ (h.new hc1) hl').mono ?_
  rintro e w2 ⟨g2, rfl, -, hc2, hb2⟩
  go_wp2_with fail
  refine (iSaveSum_any _ _ _ n xs _ hb2.rd).mono ?_
  rintro e w' ⟨s', rfl, hs', rfl⟩
  obtain rfl : s' = s := hs'.out.trans hs.out.symm
  clear hs hs'
  have hss : (s' != s') = false := by simp
  go_wp2_with fail
  refine (toIntS_any _ A c xs _ (h.new (hc1.trans hc2)) hl').mono ?_
  rintro e w3 ⟨g3, rfl, -, hc3, hb3⟩
  go_wp2_with fail
  refine (eqIntS_t _ _ _ _ _ _ xs _ (hb2.chg hc3 (fun x => x)).rd hb3.rd hm').mono ?_
  rintro e w' ⟨rfl, m, rfl⟩
  go_wp2
  go_ret
  exact ⟨rfl, ((hc1.trans hc2).trans hc3).drewN m⟩
end Go.Proofs.Ytbgepefdfioljaa
