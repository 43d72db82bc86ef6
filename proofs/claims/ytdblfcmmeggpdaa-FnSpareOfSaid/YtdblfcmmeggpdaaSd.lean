/- Spares: SpareOf of the reference. -/
import Derived.Test.YtdblfcmmeggpdaaSc
namespace Go.Proofs.Ytdblfcmmeggpdaa
open Go.RowKit
set_option maxRecDepth 100000 in
set_option maxHeartbeats 2000000 in
theorem sSpareOf_any (F : Nat → Prop) (A : Option Addr) (c : Nat) (b e : Int) (xs : List Int) (n : Int) (w : World) (h : Rd F w A (icells xs)) (hc : xs.length ≤ c) (hm : c ≤ 9223372036854775807) :
    Calls Try.prog 36 #[.agg #[.int .i64 b, .int .i64 e, .slice A xs.length c], .int .i64 n] w (SpareP w b e xs n) := by
  have HC0 := Lib.hid ((Chg.refl NoB w).alloc (.cells #[.int .i64 b, .int .i64 e, .slice A xs.length c] 42))
  have HB0 := Lib.hid (Blk.new w 42 #[.int .i64 b, .int .i64 e, .slice A xs.length c])
  have HRD0 := Lib.hid (h.lt.chg HC0.out (fun _ _ x => x))
  have HH := Lib.hid h
  clear h
  go_enter Try.func36, Try.ntmps36
  go_wp2_with fail
  refine (sSparesValid_any _ A c b e xs _ HRD0.out hc hm).mono ?_
  rintro e' w1 ⟨r, rfl, hr, hc1⟩
  have hb1 := HB0.out.chg hc1 (fun x => x)
  have z0 : w1.cell? ⟨w.heap.size, 0, none⟩ = some (.int .i64 b) := by rw [hb1.cell]; rfl
  have z1 : w1.cell? ⟨w.heap.size, 1, none⟩ = some (.int .i64 e) := by rw [hb1.cell]; rfl
  have z2 : w1.cell? ⟨w.heap.size, 2, none⟩ = some (.slice A xs.length c) := by rw [hb1.cell]; rfl
  have HC1 := Lib.hid (HC0.out.trans hc1)
  have hrd1 := HH.out.lt.chg HC1.out (fun _ _ x => x)
  have HR := Lib.hid hr
  clear hb1 hc1 hr
  cases r
  · have HNO := Lib.hid (show ¬ spArgs b e xs n from fun hh => by have := HR.out.2 hh.1; cases this)
    go_wp2
    go_ret
    exact SpareP.bad HNO.out HC1.out
  have HOK := Lib.hid (HR.out.1 rfl)
  clear HR
  obtain ⟨o1, o2, o3, o4, o5, _⟩ := HOK.out
  have hlx : xs.length ≤ 12 := by omega
  by_cases h1 : 0 ≤ n ∧ n ≤ b - 1
  case neg =>
    have H1 := Lib.hid h1
    clear h1
    go_wp2_with fail
    refine (l1In_f _ 0 _ _ H1.out).mono ?_
    rintro e' w' ⟨rfl, rfl⟩
    go_wp2
    go_ret
    exact SpareP.bad (fun hh => H1.out ⟨hh.2.1, by have := hh.2.2; omega⟩) HC1.out
  have H1 := Lib.hid h1
  obtain ⟨h1a, h1b⟩ := h1
  go_wp2_with fail
  refine (l1In_t _ 0 _ _ H1.out).mono ?_
  rintro e' w' ⟨rfl, rfl⟩
  go_wp2
  go_loop [1, 5] (fun v i => ∃ (m : Int) (q : Nat), v = .int .i64 m ∧ i = .int .i64 q ∧ 0 ≤ m ∧ m ≤ b + xs.length ∧ q ≤ xs.length ∧ Hid (Reach b xs n m ∧ (q = 0 ∨ ∃ k : Nat, m = b + k ∧ q ≤ k + 1))) (fun _ i => 20 - (intOf i).toNat)
  case atStart => exact ⟨n, 0, rfl, rfl, by omega, by omega, Nat.zero_le _, Lib.hid ⟨.here n, .inl rfl⟩⟩
  case round =>
    obtain ⟨m, q, rfl, rfl, hm0, hm1, hq, hre⟩ := hrel
    go_wp2
    go_loop [6, 7] (fun f i => ∃ (j : Nat) (f' : Int), j ≤ xs.length ∧ i = .int .i64 j ∧ f = .int .i64 f' ∧ Hid ((f' = -1 ∧ m ∉ xs.take j) ∨ ∃ (k : Nat) (h : k < xs.length), k < j ∧ f' = b + k ∧ xs[k] = m ∧ m ∉ xs.take k)) (fun _ i => xs.length - (intOf i).toNat)
    case atStart => exact ⟨0, -1, Nat.zero_le _, rfl, rfl, Lib.hid (.inl ⟨rfl, by simp⟩)⟩
    case round =>
      obtain ⟨j, f', hj, rfl, rfl, hnj⟩ := hrel
      by_cases hlt : j < xs.length
      · obtain ⟨ad, rfl, hf, hbl, hcj⟩ := ints_at hrd1 hlt
        by_cases he : xs[j] = m
        · have he' : (xs[j] == m) = true := beq_iff_eq.2 he
          have hj0 : (0 : Int) ≤ (j : Int) := Int.natCast_nonneg _
          have HN := Lib.hid (show m ∉ xs.take j from by
            rcases hnj.out with ⟨_, h1⟩ | ⟨k, hk, hkj, _, hx, _⟩
            · exact h1
            · exact absurd (List.mem_take_iff_getElem.2 ⟨k, by omega, by rw [he, ← hx]⟩) (HOK.out.2.2.2.2.2 j hlt).2.2)
          have HE := Lib.hid he
          clear he
          go_wp2
          go_round
          case rel => exact ⟨j + 1, b + j, by omega, by go_num, by go_num, Lib.hid (.inr ⟨j, hlt, by omega, rfl, HE.out, HN.out⟩)⟩
          case measure => simp [intOf]; omega
        · have he' : (xs[j] == m) = false := beq_eq_false_iff_ne.2 he
          have HN := Lib.hid (show (f' = -1 ∧ m ∉ xs.take (j + 1)) ∨ ∃ (k : Nat) (h : k < xs.length), k < j + 1 ∧ f' = b + k ∧ xs[k] = m ∧ m ∉ xs.take k from by
            rcases hnj.out with ⟨h0, h1⟩ | ⟨k, hk, hkj, h2⟩
            · exact .inl ⟨h0, not_take_succ hlt h1 (fun hh => he hh.symm)⟩
            · exact .inr ⟨k, hk, by omega, h2⟩)
          clear he
          go_wp2
          go_round
          case rel => exact ⟨j + 1, f', by omega, by go_num, rfl, HN⟩
          case measure => simp [intOf]; omega
      · rcases hnj.out with ⟨rfl, hn⟩ | ⟨k, hk, hkj, rfl, hx, hf⟩
        · have HN := Lib.hid (show m ∉ xs by rwa [List.take_of_length_le (by omega)] at hn)
          clear hn
          go_wp2
          go_ret
          exact ⟨m, rfl, fun _ => ⟨hre.out.1, HN.out⟩, fun hh => absurd ⟨HOK.out, by omega, by omega⟩ hh, HC1.out⟩
        · have HX := Lib.hid (show Reach b xs n (b + k) from hre.out.1.snoc k hk hx hf)
          have hqj : q < xs.length ∧ q ≤ k := by
            rcases hre.out.2 with h0 | ⟨k', hk', hqk⟩
            · omega
            · have := (HOK.out.2.2.2.2.2 k hk).2.1; omega
          obtain ⟨hq1, hq2⟩ := hqj
          have hk0 : (0 : Int) ≤ (k : Int) := Int.natCast_nonneg _
          clear hx hf
          go_wp2
          go_round
          case rel => exact ⟨b + k, q + 1, rfl, by go_num, by omega, by omega, by omega, Lib.hid ⟨HX.out, .inr ⟨k, rfl, by omega⟩⟩⟩
          case measure => simp [intOf]; omega
end Go.Proofs.Ytdblfcmmeggpdaa
