/- Spares: SparesValid of the program and of the reference. -/
import Derived.Test.YtdblfcmmeggpdaaN
import Derived.Test.YtdblfcmmeggpdaaI
import Derived.Test.YtdblfcmmeggpdaaO
import Derived.Deep.QuietTactic
import Derived.BigQuiet
namespace Go.Proofs.Ytdblfcmmeggpdaa
open Go.RowKit
def IdxP (w : World) (xs : List Int) (n : Int) (e : Ending) (w' : World) : Prop :=
  ∃ i : Int, e = .returned (.int .i64 i) ∧ ((i = -1 ∧ n ∉ xs) ∨ ∃ k : Nat, ∃ h : k < xs.length, i = k ∧ xs[k] = n ∧ n ∉ xs.take k) ∧ w = w'
def ConP (w : World) (xs : List Int) (n : Int) (e : Ending) (w' : World) : Prop := ∃ b : Bool, e = .returned (.bool b) ∧ (b = true ↔ n ∈ xs) ∧ w = w'
theorem not_take_succ {xs : List Int} {n : Int} {k : Nat} (h : k < xs.length) (h1 : n ∉ xs.take k) (h2 : n ≠ xs[k]) : n ∉ xs.take (k + 1) := by
  rw [List.take_succ_eq_append_getElem h]
  intro hm
  rcases List.mem_append.1 hm with h3 | h3
  · exact h1 h3
  · simp at h3; exact h2 h3

set_option maxHeartbeats 1000000 in
theorem index_any (F : Nat → Prop) (A : Option Addr) (c : Nat) (xs : List Int) (n : Int) (w : World) (h : Rd F w A (icells xs)) (hl : xs.length ≤ 9223372036854775807) :
    Calls Try.prog 48 #[.slice A xs.length c, .int .i64 n] w (IdxP w xs n) := by
  go_enter Try.func48, Try.ntmps48
  go_wp2
  go_loop [8] (fun i => ∃ k : Nat, k ≤ xs.length ∧ i = .int .i64 k ∧ Hid (n ∉ xs.take k)) (fun i => xs.length - (intOf i).toNat)
  case atStart => exact ⟨0, Nat.zero_le _, rfl, Lib.hid (by simp)⟩
  case round =>
    obtain ⟨k, hk, rfl, hn⟩ := hrel
    by_cases hlt : k < xs.length
    · obtain ⟨ad, rfl, hf, hbl, hc⟩ := ints_at h hlt
      by_cases he : n = xs[k]
      · have he' : (n == xs[k]) = true := beq_iff_eq.2 he
        have HE := Lib.hid he
        clear he
        go_wp2
        go_ret
        exact ⟨k, rfl, .inr ⟨k, hlt, rfl, HE.out.symm, hn.out⟩, rfl⟩
      · have he' : (n == xs[k]) = false := beq_eq_false_iff_ne.2 he
        have HN := Lib.hid (not_take_succ hlt hn.out he)
        clear he
        go_wp2
        go_round
        case rel => exact ⟨k + 1, by omega, by go_num, HN⟩
        case measure => simp [intOf]; omega
    · go_wp2
      go_ret
      exact ⟨-1, rfl, .inl ⟨rfl, by have := hn.out; rwa [List.take_of_length_le (by omega)] at this⟩, rfl⟩
set_option maxHeartbeats 1000000 in
theorem contains_any (F : Nat → Prop) (A : Option Addr) (c : Nat) (xs : List Int) (n : Int) (w : World) (h : Rd F w A (icells xs)) (hl : xs.length ≤ 9223372036854775807) :
    Calls Try.prog 46 #[.slice A xs.length c, .int .i64 n] w (ConP w xs n) := by
  go_enter Try.func46, Try.ntmps46
  go_wp2_with fail
  refine (index_any F A c xs n w h hl).mono ?_
  rintro e w' ⟨i, rfl, hi, rfl⟩
  rcases hi with ⟨rfl, hn⟩ | ⟨k, hk, rfl, hx, _⟩
  · have HN := Lib.hid hn
    clear hn
    go_wp2
    go_ret
    exact ⟨false, rfl, by simp [HN.out], rfl⟩
  · have HX := Lib.hid hx
    clear hx
    have h0 : (0 : Int) ≤ (k : Int) := Int.natCast_nonneg _
    go_wp2
    go_ret
    refine ⟨true, by simp, ?_, rfl⟩
    have : n ∈ xs := by rw [← HX.out]; exact List.getElem_mem hk
    simp [this]

theorem quiet_left' {P : Program} {f : FuncId} {args : Array Value} {w : World} {n : Nat} {v : Value}
    (h : Calls P f args (w.drewN n) fun e w' => e = .returned v ∧ w.drewN n = w') : Calls P f args (w.drewN n) fun e w'' => e = .returned v ∧ ∃ m, w'' = w.drewN m :=
  h.mono fun _ _ ⟨he, hm⟩ => ⟨he, n, hm.symm⟩
def spOk (b e : Int) (xs : List Int) : Prop :=
  1 ≤ b ∧ b ≤ 12 ∧ 0 ≤ e ∧ e ≤ 12 ∧ (xs.length : Int) ≤ e ∧ ∀ k (h : k < xs.length), 0 ≤ xs[k] ∧ xs[k] < b + k ∧ xs[k] ∉ xs.take k
theorem rd_take {F : Nat → Prop} {w : World} {A : Option Addr} {xs : List Int} (h : Rd F w A (icells xs)) (k : Nat) : Rd F w A (icells (xs.take k)) := fun j v hj => h j v (by
  unfold icells at hj ⊢
  rw [List.map_take, List.getElem?_take] at hj
  split at hj
  · exact hj
  · cases hj)

set_option maxRecDepth 100000 in
set_option maxHeartbeats 2000000 in
theorem iSparesValid_any (F : Nat → Prop) (A : Option Addr) (c : Nat) (b e : Int) (xs : List Int) (w : World) (h : Rd F w A (icells xs)) (hc : xs.length ≤ c) (hm : c ≤ 9223372036854775807) :
    Calls Try.prog 33 #[.agg #[.int .i64 b, .int .i64 e, .slice A xs.length c]] w (Says w (spOk b e xs)) := by
  have HNO : ∀ {p : Prop}, ¬ p → Says w p (.returned (.bool false)) (w.alloc (.cells #[.int .i64 b, .int .i64 e, .slice A xs.length c] 42)) := fun hp => Says.no hp ((Chg.refl _ _).alloc _)
  by_cases h1 : b < 1
  · go_enter Try.func33, Try.ntmps33
    go_wp2
    go_ret
    exact HNO (fun hh => by have := hh.1; omega)
  by_cases h2 : 12 < b
  · go_enter Try.func33, Try.ntmps33
    go_wp2
    go_ret
    exact HNO (fun hh => by have := hh.2.1; omega)
  by_cases h3 : e < 0
  · go_enter Try.func33, Try.ntmps33
    go_wp2
    go_ret
    exact HNO (fun hh => by have := hh.2.2.1; omega)
  by_cases h4 : 12 < e
  · go_enter Try.func33, Try.ntmps33
    go_wp2
    go_ret
    exact HNO (fun hh => by have := hh.2.2.2.1; omega)
  by_cases h5 : e < (xs.length : Int)
  · go_enter Try.func33, Try.ntmps33
    go_wp2
    go_ret
    exact HNO (fun hh => by have := hh.2.2.2.2.1; omega)
  have h6 : xs.length ≤ 12 := by omega
  have hrd := h.lt.chg ((Chg.refl NoB w).alloc (.cells #[.int .i64 b, .int .i64 e, .slice A xs.length c] 42)) (fun _ _ x => x)
  go_enter Try.func33, Try.ntmps33
  go_wp2
  go_loop [34] (fun i => ∃ k : Nat, k ≤ xs.length ∧ i = .int .i64 k ∧ Hid (∀ j (h : j < xs.length), j < k → 0 ≤ xs[j] ∧ xs[j] < b + j ∧ xs[j] ∉ xs.take j)) (fun i => xs.length - (intOf i).toNat)
  case atStart => exact ⟨0, Nat.zero_le _, rfl, Lib.hid (by intro j _ hj; omega)⟩
  case round =>
    obtain ⟨k, hk, rfl, hok⟩ := hrel
    by_cases hlt : k < xs.length
    · have HRD := Lib.hid (rd_take hrd k)
      have htl : (xs.take k).length = k := by rw [List.length_take]; omega
      obtain ⟨ad, rfl, hf, hbl, hc0⟩ := ints_at hrd hlt
      by_cases h7 : xs[k] < 0
      · go_wp2
        go_ret
        exact HNO (fun hh => by have := (hh.2.2.2.2.2 k hlt).1; omega)
      by_cases h8 : b + (k : Int) ≤ xs[k]
      · go_wp2
        go_ret
        exact HNO (fun hh => by have := (hh.2.2.2.2.2 k hlt).2.1; omega)
      have hcv := contains_any _ (some ad) c (xs.take k) xs[k] _ HRD.out (by omega)
      rw [htl] at hcv
      have HCV := Lib.hid hcv
      have hkc : k ≤ c := by omega
      clear hcv htl
      go_wp2_with fail
      refine HCV.out.mono ?_
      rintro e' w' ⟨b', rfl, hb, rfl⟩
      cases b'
      · have HS := Lib.hid (show xs[k] ∉ xs.take k from fun hh => by have := hb.2 hh; cases this)
        clear hb
        go_wp2
        go_round
        case rel =>
          refine ⟨k + 1, by omega, by go_num, Lib.hid fun j hj hjk => ?_⟩
          by_cases hjk' : j = k
          · subst hjk'; exact ⟨by omega, by omega, HS.out⟩
          · exact hok.out j hj (by omega)
        case measure => simp [intOf]; omega
      · have HS := Lib.hid (hb.1 rfl)
        clear hb
        go_wp2
        go_ret
        exact HNO (fun hh => (hh.2.2.2.2.2 k hlt).2.2 HS.out)
    · go_wp2
      go_ret
      exact Says.yes ⟨by omega, by omega, by omega, by omega, by omega, fun j hj => hok.out j hj (by omega)⟩ ((Chg.refl _ _).alloc _)

set_option maxRecDepth 100000 in
set_option maxHeartbeats 2000000 in
theorem sSparesValid_any (F : Nat → Prop) (A : Option Addr) (c : Nat) (b e : Int) (xs : List Int) (w : World) (h : Rd F w A (icells xs)) (hc : xs.length ≤ c) (hm : c ≤ 9223372036854775807) :
    Calls Try.prog 31 #[.agg #[.int .i64 b, .int .i64 e, .slice A xs.length c]] w (Says w (spOk b e xs)) := by
  have HC0 := Lib.hid ((Chg.refl NoB w).alloc (.cells #[.int .i64 b, .int .i64 e, .slice A xs.length c] 42))
  have hrd := h.lt.chg HC0.out (fun _ _ x => x)
  by_cases h1 : 1 ≤ b ∧ b ≤ 12
  case neg =>
    go_enter Try.func31, Try.ntmps31
    go_wp2_with fail
    refine (l1In_f _ 1 12 _ h1).mono ?_
    rintro e' w' ⟨rfl, rfl⟩
    go_wp2
    go_ret
    exact Says.no (fun hh => h1 ⟨hh.1, hh.2.1⟩) HC0.out
  by_cases h2 : 0 ≤ e ∧ e ≤ 12
  case neg =>
    go_enter Try.func31, Try.ntmps31
    go_wp2_with fail
    refine (l1In_t _ 1 12 _ h1).mono ?_
    rintro e' w' ⟨rfl, rfl⟩
    go_wp2_with fail
    refine (l1In_f _ 0 12 _ h2).mono ?_
    rintro e' w' ⟨rfl, rfl⟩
    go_wp2
    go_ret
    exact Says.no (fun hh => h2 ⟨hh.2.2.1, hh.2.2.2.1⟩) HC0.out
  go_enter Try.func31, Try.ntmps31
  go_wp2_with fail
  refine (l1In_t _ 1 12 _ h1).mono ?_
  rintro e' w' ⟨rfl, rfl⟩
  go_wp2_with fail
  refine (l1In_t _ 0 12 _ h2).mono ?_
  rintro e' w' ⟨rfl, rfl⟩
  obtain ⟨h1a, h1b⟩ := h1
  obtain ⟨h2a, h2b⟩ := h2
  by_cases h5 : e < (xs.length : Int)
  · go_wp2
    go_ret
    exact Says.no (fun hh => by have := hh.2.2.2.2.1; omega) HC0.out
  have h6 : xs.length ≤ 12 := by omega
  go_wp2
  go_loopw [3] (fun i wr => ∃ k : Nat, k ≤ xs.length ∧ i = .int .i64 k ∧ Chg NoB (w.alloc (.cells #[.int .i64 b, .int .i64 e, .slice A xs.length c] 42)) wr ∧ Hid (∀ j (h : j < xs.length), j < k → 0 ≤ xs[j] ∧ xs[j] < b + j ∧ xs[j] ∉ xs.take j)) (fun i _ => xs.length - (intOf i).toNat)
  case atStart => exact ⟨0, Nat.zero_le _, rfl, Chg.refl _ _, Lib.hid (by intro j _ hj; omega)⟩
  case round =>
    obtain ⟨k, hk, rfl, hch, hok⟩ := hrel
    have HC := Lib.hid (HC0.out.trans hch)
    have HCH := Lib.hid hch
    have hbox := (Blk.new w 42 #[.int .i64 b, .int .i64 e, .slice A xs.length c]).chg hch (fun x => x)
    have x0 : wr.cell? ⟨w.heap.size, 0, none⟩ = some (.int .i64 b) := by rw [hbox.cell]; rfl
    have x2 : wr.cell? ⟨w.heap.size, 2, none⟩ = some (.slice A xs.length c) := by rw [hbox.cell]; rfl
    have hrd2 := hrd.chg hch (fun _ _ x => x)
    clear hch
    by_cases hlt : k < xs.length
    · obtain ⟨ad, rfl, hf, hbl, hc0⟩ := ints_at hrd2 hlt
      have hi0 : (0 : Int) ≤ (k : Int) := Int.natCast_nonneg _
      have hi1 : (k : Int) < (xs.length : Int) := by omega
      by_cases h7 : 0 ≤ xs[k] ∧ xs[k] ≤ b + (k : Int) - 1
      case neg =>
        go_wp2
        go_quiet ((go_at_call 40; exact quiet_left' (l1In_f _ 0 _ _ h7)))
        go_wp2
        go_ret
        exact Says.no (fun hh => h7 (by have := hh.2.2.2.2.2 k hlt; omega)) (HC.out.drewN _)
      have H7 := Lib.hid h7
      go_wp2
      go_quiet ((go_at_call 40; exact quiet_left' (l1In_t _ 0 _ _ H7.out)))
      go_wp2
      go_loopw [4] (fun i wi => ∃ j : Nat, j ≤ k ∧ i = .int .i64 j ∧ Chg NoB wr wi ∧ Hid (∀ q (h : q < xs.length), q < j → xs[q] ≠ xs[k])) (fun i _ => k - (intOf i).toNat)
      case atStart => exact ⟨0, Nat.zero_le _, rfl, (Chg.refl _ _).drewN _, Lib.hid (by intro j _ hj; omega)⟩
      case round =>
        obtain ⟨j, hj, rfl, hchi, hokj⟩ := hrel
        have HCI := Lib.hid hchi
        have hboxi := hbox.chg hchi (fun x => x)
        have y2 := (hboxi.cell 2).trans (show (#[Value.int .i64 b, .int .i64 e, .slice (some ad) xs.length c] : Array Value)[2]? = some (.slice (some ad) xs.length c) from rfl)
        have hrdi := hrd2.chg hchi (fun _ _ x => x)
        obtain ⟨ad', hadd, hf', hbl', hcj⟩ := ints_at hrdi hlt
        cases hadd
        clear hchi
        by_cases hjk : j < k
        · have hjx : j < xs.length := by omega
          obtain ⟨ad', hadd, hf'', hbl'', hcj'⟩ := ints_at hrdi hjx
          cases hadd
          have hj0 : (0 : Int) ≤ (j : Int) := Int.natCast_nonneg _
          have hj1 : (j : Int) < (xs.length : Int) := by omega
          by_cases heq : xs[j] = xs[k]
          · have heq' : (xs[j] == xs[k]) = true := beq_iff_eq.2 heq
            have HE := Lib.hid heq
            clear heq
            go_wp2
            go_quiet (fail)
            go_wp2
            go_ret
            exact Says.no (fun hh => (hh.2.2.2.2.2 k hlt).2.2 (by rw [← HE.out]; exact List.mem_take_iff_getElem.2 ⟨j, by omega, rfl⟩)) ((HC.out.trans HCI.out).drewN _)
          · have heq' : (xs[j] == xs[k]) = false := beq_eq_false_iff_ne.2 heq
            have HE := Lib.hid heq
            clear heq
            go_wp2
            go_quiet (fail)
            go_wp2
            go_roundw
            case rel =>
              refine ⟨j + 1, by omega, by go_num, HCI.out.drewN _, Lib.hid fun q hq hqj => ?_⟩
              by_cases hqe : q = j
              · subst hqe; exact HE.out
              · exact hokj.out q hq (by omega)
            case measure => simp [intOf]; omega
        · have hjk' : j = k := by omega
          subst hjk'
          go_wp2
          go_roundw
          case rel =>
            refine ⟨j + 1, by omega, by go_num, HCH.out.trans HCI.out, Lib.hid fun q hq hqj => ?_⟩
            by_cases hqe : q = j
            · subst hqe
              refine ⟨H7.out.1, by have := H7.out.2; omega, fun hm => ?_⟩
              obtain ⟨r, hr, he⟩ := List.mem_take_iff_getElem.1 hm
              exact hokj.out r (by omega) (by omega) he
            · exact hok.out q hq (by omega)
          case measure => simp [intOf]; omega
    · go_wp2
      go_ret
      exact Says.yes ⟨by omega, by omega, by omega, by omega, by omega, fun j hj => hok.out j hj (by omega)⟩ HC.out
end Go.Proofs.Ytdblfcmmeggpdaa
