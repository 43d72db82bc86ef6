/- slices.SortStableFunc at 48 numbers or fewer, in ascending order: sorted by the key. -/
import Derived.Test.YtenbbkmbnpdfaaaZe
import Derived.Test.YtenbbkmbnpdfaaaVj
import Derived.Test.YtenbbkmbnpdfaaaVi
namespace Go.Proofs.Ytenbbkmbnpdfaaa
open Go.RowKit
theorem insSort_at (w : World) (g c : Nat) (cb : Value) (K : Nat → Int) (M : Nat) (P X Q : List Nat) (rest : List Value) (lo hi n : Nat) (z1 z2 : Int) (h1 : z1 = (lo : Int)) (h2 : z2 = (hi : Int)) (ha : P.length = lo) (hb : lo + X.length = hi) (hn : hi + Q.length = n) (hn' : n ≤ 1000)
    (hB : RowB w g rest (P ++ (X ++ Q))) (hM : ∀ x ∈ X, x < M) (hX : X.Pairwise (· < ·)) (hC : CmpP w g cb K M) :
    Calls Try.prog 105 #[.slice (some ⟨g, 0, none⟩) n c, .int .i64 z1, .int .i64 z2, .func (.func 79) #[] #[cb]] w (RowP w g rest (P ++ (srt K X ++ Q))) := by
  subst h1 h2
  exact insSort_any w g c cb K M P X Q rest lo hi n ha hb hn hn' hB hM hX hC
theorem sym_at (w : World) (g c : Nat) (cb : Value) (K : Nat → Int) (M : Nat) (P U V Q : List Nat) (rest : List Value) (lo md hi n : Nat) (z1 z2 z3 : Int) (q1 : z1 = (lo : Int)) (q2 : z2 = (md : Int)) (q3 : z3 = (hi : Int)) (ha : P.length = lo) (hu : lo + U.length = md) (hv : md + V.length = hi) (hn : hi + Q.length = n) (hn' : n ≤ 1000) (h1 : 1 ≤ U.length) (h2 : 1 ≤ V.length)
    (hB : RowB w g rest (P ++ (U ++ (V ++ Q)))) (hU : Srt K U) (hV : Srt K V) (hX : Cross K U V) (hUM : ∀ x ∈ U, x < M) (hVM : ∀ y ∈ V, y < M) (hC : CmpP w g cb K M) :
    Calls Try.prog 106 #[.slice (some ⟨g, 0, none⟩) n c, .int .i64 z1, .int .i64 z2, .int .i64 z3, .func (.func 79) #[] #[cb]] w (RowP w g rest (P ++ (srt K (U ++ V) ++ Q))) := by
  subst q1 q2 q3
  exact sym_all K M g c cb n rest hn' _ w P U V Q lo md hi (Nat.le_refl _) ha hu hv hn h1 h2 hB hU hV hX hUM hVM hC
theorem lt_app {X Y : List Nat} (h : (X ++ Y).Pairwise (· < ·)) : X.Pairwise (· < ·) ∧ Y.Pairwise (· < ·) := ⟨(List.pairwise_append.1 h).1, (List.pairwise_append.1 h).2.1⟩
set_option maxRecDepth 100000 in
set_option maxHeartbeats 16000000 in
theorem stable_any (w : World) (g c : Nat) (cb : Value) (K : Nat → Int) (M : Nat) (L : List Nat) (rest : List Value) (n : Nat) (hn : L.length = n) (hn' : n ≤ 48)
    (hB : RowB w g rest L) (hM : ∀ x ∈ L, x < M) (hL : L.Pairwise (· < ·)) (hC : CmpP w g cb K M) :
    Calls Try.prog 93 #[.slice (some ⟨g, 0, none⟩) n c, .int .i64 (n : Int), .func (.func 79) #[] #[cb]] w (RowP w g rest (srt K L)) := by
  have HN := Lib.hid hn
  have HC := Lib.hid hC
  by_cases c1 : n < 20
  · have c1' : ¬ ((20 : Int) ≤ (n : Int)) := by omega
    have c2' : ¬ ((20 : Int) < (n : Int)) := by omega
    have HB := Lib.hid (show RowB w g rest ([] ++ (L ++ [])) by simpa using hB)
    have HM := Lib.hid hM
    have HL := Lib.hid hL
    clear hB hM hL hC hn
    go_enter Try.func93, Try.ntmps93
    go_wp2_with fail
    refine wp_loop_rounds 1 ?_
    refine one_round ?_
    go_wp2_with fail
    refine (insSort_at _ g c cb K M [] L [] rest 0 n n _ _ (by omega) (by omega) rfl (by have := HN.out; omega) rfl (by omega) HB.out HM.out HL.out HC.out).mono ?_
    rintro e w1 ⟨rfl, hc1, hb1⟩
    have HC1 := Lib.hid hc1
    have HB1 := Lib.hid hb1
    clear hc1 hb1
    go_wp2_with fail
    refine wp_loop_rounds 1 ?_
    refine one_round ?_
    go_wp2
    go_end0
    exact ⟨rfl, HC1.out, by simpa using HB1.out⟩
  obtain ⟨L1, L2, rfl, l1, l2⟩ : ∃ L1 L2, L = L1 ++ L2 ∧ L1.length = 20 ∧ 20 + L2.length = n := ⟨L.take 20, L.drop 20, (List.take_append_drop _ _).symm, by rw [List.length_take]; omega, by rw [List.length_drop]; omega⟩
  have c1' : ((20 : Int) ≤ (n : Int)) := by omega
  have HL1 := Lib.hid l1
  have HL2 := Lib.hid l2
  by_cases c2 : n < 40
  · have c2' : ¬ ((40 : Int) ≤ (n : Int)) := by omega
    have HB := Lib.hid (show RowB w g rest ([] ++ (L1 ++ L2)) by simpa using hB)
    have HM1 := Lib.hid (show ∀ x ∈ L1, x < M from fun x hx => hM x (List.mem_append_left _ hx))
    have HM2 := Lib.hid (show ∀ x ∈ L2, x < M from fun x hx => hM x (List.mem_append_right _ hx))
    have HX1 := Lib.hid (lt_app hL).1
    have HX2 := Lib.hid (lt_app hL).2
    have HX := Lib.hid (cross_of_lt (K := K) hL)
    clear hB hM hL hC hn l1 l2
    by_cases c3 : 20 < n
    · have c3' : ((20 : Int) < (n : Int)) := by omega
      have c4' : ¬ ((40 : Int) < (n : Int)) := by omega
      go_enter Try.func93, Try.ntmps93
      go_wp2_with fail
      refine wp_loop_rounds 2 ?_
      refine one_round ?_
      go_wp2_with fail
      refine (insSort_at _ g c cb K M [] L1 L2 rest 0 20 n _ _ (by omega) (by omega) rfl (by rw [HL1.out]) HL2.out (by omega) HB.out HM1.out HX1.out HC.out).mono ?_
      rintro e w1 ⟨rfl, hc1, hb1⟩
      have HC1 := Lib.hid hc1
      have HB1 := Lib.hid hb1
      clear hc1 hb1
      go_wp2_with fail
      refine one_round ?_
      go_wp2_with fail
      refine (insSort_at _ g c cb K M (srt K L1) L2 [] rest 20 n n _ _ (by omega) (by omega) (by rw [srt_length, HL1.out]) HL2.out rfl (by omega) (by simpa using HB1.out) HM2.out HX2.out (HC.out.later HC1.out)).mono ?_
      rintro e w2 ⟨rfl, hc2, hb2⟩
      have HC2 := Lib.hid (HC1.out.trans hc2)
      have HB2 := Lib.hid hb2
      clear hc2 hb2
      go_wp2_with fail
      refine wp_loop_rounds 2 ?_
      refine one_round ?_
      go_wp2_with fail
      refine wp_loop_rounds 1 ?_
      refine one_round ?_
      go_wp2_with fail
      refine (sym_at _ g c cb K M [] (srt K L1) (srt K L2) [] rest 0 20 n n _ _ _ (by omega) (by omega) (by omega) rfl (by rw [srt_length, HL1.out]) (by rw [srt_length]; exact HL2.out) rfl (by omega) (by rw [srt_length, HL1.out]; omega) (by rw [srt_length]; have := HL2.out; omega) (by simpa using HB2.out) (srt_sorted _) (srt_sorted _) HX.out.srt (fun x hx => HM1.out x (srt_mem.1 hx)) (fun x hx => HM2.out x (srt_mem.1 hx)) (HC.out.later HC2.out)).mono ?_
      rintro e w3 ⟨rfl, hc3, hb3⟩
      have HC3 := Lib.hid (HC2.out.trans hc3)
      have HB3 := Lib.hid hb3
      clear hc3 hb3
      go_wp2_with fail
      refine one_round ?_
      go_wp2
      go_end0
      refine ⟨rfl, HC3.out, ?_⟩
      have hz := HB3.out
      rw [srt_both] at hz
      simpa using hz
    · have c3' : ¬ ((20 : Int) < (n : Int)) := by omega
      go_enter Try.func93, Try.ntmps93
      go_wp2_with fail
      refine wp_loop_rounds 2 ?_
      refine one_round ?_
      go_wp2_with fail
      refine (insSort_at _ g c cb K M [] L1 L2 rest 0 20 n _ _ (by omega) (by omega) rfl (by rw [HL1.out]) HL2.out (by omega) HB.out HM1.out HX1.out HC.out).mono ?_
      rintro e w1 ⟨rfl, hc1, hb1⟩
      have HC1 := Lib.hid hc1
      have HB1 := Lib.hid hb1
      clear hc1 hb1
      go_wp2_with fail
      refine one_round ?_
      go_wp2_with fail
      refine (insSort_at _ g c cb K M (srt K L1) L2 [] rest 20 n n _ _ (by omega) (by omega) (by rw [srt_length, HL1.out]) HL2.out rfl (by omega) (by simpa using HB1.out) HM2.out HX2.out (HC.out.later HC1.out)).mono ?_
      rintro e w2 ⟨rfl, hc2, hb2⟩
      have HC2 := Lib.hid (HC1.out.trans hc2)
      have HB2 := Lib.hid hb2
      clear hc2 hb2
      go_wp2_with fail
      refine wp_loop_rounds 1 ?_
      refine one_round ?_
      go_wp2
      go_end0
      refine ⟨rfl, HC2.out, ?_⟩
      have hz := HB2.out
      have h2 : L2 = [] := List.eq_nil_of_length_eq_zero (by have := HL2.out; omega)
      subst h2
      simpa [srt] using hz
  obtain ⟨L2, L3, rfl, l2, l3⟩ : ∃ X Y, L2 = X ++ Y ∧ X.length = 20 ∧ 40 + Y.length = n := ⟨L2.take 20, L2.drop 20, (List.take_append_drop _ _).symm, by rw [List.length_take]; omega, by rw [List.length_drop]; omega⟩
  clear HL2
  have HL2 := Lib.hid l2
  have HL3 := Lib.hid l3
  have c2' : ((40 : Int) ≤ (n : Int)) := by omega
  have c3' : ¬ ((60 : Int) ≤ (n : Int)) := by omega
  have c4' : ¬ ((80 : Int) ≤ (n : Int)) := by omega
  have c5' : ((20 : Int) < (n : Int)) := by omega
  have c6' : ¬ ((60 : Int) < (n : Int)) := by omega
  have c7' : ¬ ((80 : Int) < (n : Int)) := by omega
  have HB := Lib.hid (show RowB w g rest ([] ++ (L1 ++ (L2 ++ L3))) by simpa using hB)
  have HM1 := Lib.hid (show ∀ x ∈ L1, x < M from fun x hx => hM x (by simp [hx]))
  have HM2 := Lib.hid (show ∀ x ∈ L2, x < M from fun x hx => hM x (by simp [hx]))
  have HM3 := Lib.hid (show ∀ x ∈ L3, x < M from fun x hx => hM x (by simp [hx]))
  rw [← List.append_assoc] at hL
  have HX1 := Lib.hid (lt_app (lt_app hL).1).1
  have HX2 := Lib.hid (lt_app (lt_app hL).1).2
  have HX3 := Lib.hid (lt_app hL).2
  have HXa := Lib.hid (cross_of_lt (K := K) (lt_app hL).1)
  have HXb := Lib.hid (cross_of_lt (K := K) hL)
  clear hB hM hL hC hn l1 l2 l3
  by_cases c8 : 40 < n
  · have c8' : ((40 : Int) < (n : Int)) := by omega
    go_enter Try.func93, Try.ntmps93
    go_wp2_with fail
    refine wp_loop_rounds 3 ?_
    refine one_round ?_
    go_wp2_with fail
    refine (insSort_at _ g c cb K M [] L1 (L2 ++ L3) rest 0 20 n _ _ (by omega) (by omega) rfl (by rw [HL1.out]) (by have := HL2.out; have := HL3.out; rw [List.length_append]; omega) (by omega) HB.out HM1.out HX1.out HC.out).mono ?_
    rintro e w1 ⟨rfl, hc1, hb1⟩
    have HC1 := Lib.hid hc1
    have HB1 := Lib.hid hb1
    clear hc1 hb1
    go_wp2_with fail
    refine one_round ?_
    go_wp2_with fail
    refine (insSort_at _ g c cb K M (srt K L1) L2 L3 rest 20 40 n _ _ (by omega) (by omega) (by rw [srt_length, HL1.out]) (by rw [HL2.out]) HL3.out (by omega) (by simpa using HB1.out) HM2.out HX2.out (HC.out.later HC1.out)).mono ?_
    rintro e w2 ⟨rfl, hc2, hb2⟩
    have HC2 := Lib.hid (HC1.out.trans hc2)
    have HB2 := Lib.hid hb2
    clear hc2 hb2
    go_wp2_with fail
    refine one_round ?_
    go_wp2_with fail
    refine (insSort_at _ g c cb K M (srt K L1 ++ srt K L2) L3 [] rest 40 n n _ _ (by omega) (by omega) (by rw [List.length_append, srt_length, srt_length, HL1.out, HL2.out]) HL3.out rfl (by omega) (by simpa using HB2.out) HM3.out HX3.out (HC.out.later HC2.out)).mono ?_
    rintro e w3 ⟨rfl, hc3, hb3⟩
    have HC3 := Lib.hid (HC2.out.trans hc3)
    have HB3 := Lib.hid hb3
    clear hc3 hb3
    go_wp2_with fail
    refine wp_loop_rounds 3 ?_
    refine one_round ?_
    go_wp2_with fail
    refine wp_loop_rounds 2 ?_
    refine one_round ?_
    go_wp2_with fail
    refine (sym_at _ g c cb K M [] (srt K L1) (srt K L2) (srt K L3) rest 0 20 40 n _ _ _ (by omega) (by omega) (by omega) rfl (by rw [srt_length, HL1.out]) (by rw [srt_length, HL2.out]) (by rw [srt_length]; exact HL3.out) (by omega) (by rw [srt_length, HL1.out]; omega) (by rw [srt_length, HL2.out]; omega) (by simpa using HB3.out) (srt_sorted _) (srt_sorted _) HXa.out.srt (fun x hx => HM1.out x (srt_mem.1 hx)) (fun x hx => HM2.out x (srt_mem.1 hx)) (HC.out.later HC3.out)).mono ?_
    rintro e w4 ⟨rfl, hc4, hb4⟩
    have HC4 := Lib.hid (HC3.out.trans hc4)
    have HB4 := Lib.hid (show RowB _ g rest ([] ++ (srt K (L1 ++ L2) ++ srt K L3)) by rw [srt_both] at hb4; exact hb4)
    clear hc4 hb4
    go_wp2_with fail
    refine one_round ?_
    go_wp2_with fail
    refine one_round ?_
    go_wp2_with fail
    refine wp_loop_rounds 1 ?_
    refine one_round ?_
    go_wp2_with fail
    refine (sym_at _ g c cb K M [] (srt K (L1 ++ L2)) (srt K L3) [] rest 0 40 n n _ _ _ (by omega) (by omega) (by omega) rfl (by rw [srt_length, List.length_append, HL1.out, HL2.out]) (by rw [srt_length]; exact HL3.out) rfl (by omega) (by rw [srt_length, List.length_append, HL1.out]; omega) (by rw [srt_length]; have := HL3.out; omega) (by simpa using HB4.out) (srt_sorted _) (srt_sorted _) HXb.out.srt (fun x hx => by rcases List.mem_append.1 (srt_mem.1 hx) with h | h; exact HM1.out x h; exact HM2.out x h) (fun x hx => HM3.out x (srt_mem.1 hx)) (HC.out.later HC4.out)).mono ?_
    rintro e w5 ⟨rfl, hc5, hb5⟩
    have HC5 := Lib.hid (HC4.out.trans hc5)
    have HB5 := Lib.hid hb5
    clear hc5 hb5
    go_wp2_with fail
    refine one_round ?_
    go_wp2
    go_end0
    refine ⟨rfl, HC5.out, ?_⟩
    have hz := HB5.out
    rw [srt_both] at hz
    simpa using hz
  · have c8' : ¬ ((40 : Int) < (n : Int)) := by omega
    go_enter Try.func93, Try.ntmps93
    go_wp2_with fail
    refine wp_loop_rounds 3 ?_
    refine one_round ?_
    go_wp2_with fail
    refine (insSort_at _ g c cb K M [] L1 (L2 ++ L3) rest 0 20 n _ _ (by omega) (by omega) rfl (by rw [HL1.out]) (by have := HL2.out; have := HL3.out; rw [List.length_append]; omega) (by omega) HB.out HM1.out HX1.out HC.out).mono ?_
    rintro e w1 ⟨rfl, hc1, hb1⟩
    have HC1 := Lib.hid hc1
    have HB1 := Lib.hid hb1
    clear hc1 hb1
    go_wp2_with fail
    refine one_round ?_
    go_wp2_with fail
    refine (insSort_at _ g c cb K M (srt K L1) L2 L3 rest 20 40 n _ _ (by omega) (by omega) (by rw [srt_length, HL1.out]) (by rw [HL2.out]) HL3.out (by omega) (by simpa using HB1.out) HM2.out HX2.out (HC.out.later HC1.out)).mono ?_
    rintro e w2 ⟨rfl, hc2, hb2⟩
    have HC2 := Lib.hid (HC1.out.trans hc2)
    have HB2 := Lib.hid hb2
    clear hc2 hb2
    go_wp2_with fail
    refine one_round ?_
    go_wp2_with fail
    refine (insSort_at _ g c cb K M (srt K L1 ++ srt K L2) L3 [] rest 40 n n _ _ (by omega) (by omega) (by rw [List.length_append, srt_length, srt_length, HL1.out, HL2.out]) HL3.out rfl (by omega) (by simpa using HB2.out) HM3.out HX3.out (HC.out.later HC2.out)).mono ?_
    rintro e w3 ⟨rfl, hc3, hb3⟩
    have HC3 := Lib.hid (HC2.out.trans hc3)
    have HB3 := Lib.hid hb3
    clear hc3 hb3
    go_wp2_with fail
    refine wp_loop_rounds 3 ?_
    refine one_round ?_
    go_wp2_with fail
    refine wp_loop_rounds 2 ?_
    refine one_round ?_
    go_wp2_with fail
    refine (sym_at _ g c cb K M [] (srt K L1) (srt K L2) (srt K L3) rest 0 20 40 n _ _ _ (by omega) (by omega) (by omega) rfl (by rw [srt_length, HL1.out]) (by rw [srt_length, HL2.out]) (by rw [srt_length]; exact HL3.out) (by omega) (by rw [srt_length, HL1.out]; omega) (by rw [srt_length, HL2.out]; omega) (by simpa using HB3.out) (srt_sorted _) (srt_sorted _) HXa.out.srt (fun x hx => HM1.out x (srt_mem.1 hx)) (fun x hx => HM2.out x (srt_mem.1 hx)) (HC.out.later HC3.out)).mono ?_
    rintro e w4 ⟨rfl, hc4, hb4⟩
    have HC4 := Lib.hid (HC3.out.trans hc4)
    have HB4 := Lib.hid (show RowB _ g rest ([] ++ (srt K (L1 ++ L2) ++ srt K L3)) by rw [srt_both] at hb4; exact hb4)
    clear hc4 hb4
    go_wp2_with fail
    refine one_round ?_
    go_wp2_with fail
    refine one_round ?_
    go_wp2
    go_end0
    refine ⟨rfl, HC4.out, ?_⟩
    have hz := HB4.out
    have h2 : L3 = [] := List.eq_nil_of_length_eq_zero (by have := HL3.out; omega)
    subst h2
    simpa [srt] using hz
set_option maxRecDepth 100000 in
set_option maxHeartbeats 4000000 in
theorem SortStable_any (w : World) (g c : Nat) (cb : Value) (K : Nat → Int) (M : Nat) (L : List Nat) (rest : List Value) (n : Nat) (hn : L.length = n) (hn' : n ≤ 48)
    (hB : RowB w g rest L) (hM : ∀ x ∈ L, x < M) (hL : L.Pairwise (· < ·)) (hC : CmpP w g cb K M) :
    Calls Try.prog 78 #[.slice (some ⟨g, 0, none⟩) n c, .func (.func 79) #[] #[cb]] w (RowP w g rest (srt K L)) := by
  have HX := Lib.hid (stable_any w g c cb K M L rest n hn hn' hB hM hL hC)
  clear hn hB hM hL hC
  go_enter Try.func78, Try.ntmps78
  go_wp2_with fail
  refine HX.out.mono ?_
  rintro e w1 ⟨rfl, hc1, hb1⟩
  have HC1 := Lib.hid hc1
  have HB1 := Lib.hid hb1
  clear hc1 hb1
  go_wp2
  go_end0
  exact ⟨rfl, HC1.out, HB1.out⟩
end Go.Proofs.Ytenbbkmbnpdfaaa
