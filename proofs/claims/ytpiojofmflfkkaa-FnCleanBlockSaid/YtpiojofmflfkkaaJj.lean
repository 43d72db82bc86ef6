/- Parts of the proof, merged: Cg. -/
import Derived.Test.YtpiojofmflfkkaaJb
import Derived.Test.YtpiojofmflfkkaaJh
import Derived.Test.YtpiojofmflfkkaaJg
import Derived.Test.YtpiojofmflfkkaaJe
import Derived.Test.YtpiojofmflfkkaaJc
/- CleanBlock of the program. -/
namespace Go.Proofs.Ytpiojofmflfkkaa
open Go.RowKit
set_option maxRecDepth 100000 in
set_option maxHeartbeats 2000000 in
theorem iCleanBlock_any (F G : Nat → Prop) (A0 : Option Addr) (c0 : Nat) (D : List Bk) (A : Option Addr) (c : Nat) (X : List (List Int)) (h : Hd) (n s : Int) (w : World) (hr : DevR F w A0 D) (ht : TabR G w A X) :
    Calls Try.prog 25 #[.slice A0 D.length c0, .agg #[.slice A X.length c], hval h, .int .i64 n, .int .i64 s] w (CleanP w (cleanBlock D X h n s)) := by
  obtain ⟨a1, a2, a3⟩ := h
  have HD0 := Lib.hid hr.lt
  have HT0 := Lib.hid ht.lt
  obtain ⟨k1, k2, k3, k4, k5⟩ := lit4 w 31 46 31 46 #[.slice A X.length c] #[.int .i64 a1, .int .i64 a2, .int .i64 a3] #[.slice none 0 0] #[.int .i64 0, .int .i64 0, .int .i64 0]
  obtain ⟨w4, hw4⟩ : ∃ w4, (((w.alloc (.cells #[.slice A X.length c] 31)).alloc (.cells #[.int .i64 a1, .int .i64 a2, .int .i64 a3] 46)).alloc (.cells #[.slice none 0 0] 31)).alloc (.cells #[.int .i64 0, .int .i64 0, .int .i64 0] 46) = w4 := ⟨_, rfl⟩
  rw [hw4] at k1 k2 k3 k4 k5
  have HW4 := Lib.hid hw4
  have HB1 := Lib.hid k1
  have HB2 := Lib.hid k2
  have HB3 := Lib.hid k3
  have HB4 := Lib.hid k4
  have HC := Lib.hid k5
  clear hr ht k1 k2 k3 k4 k5 hw4
  by_cases hH : HeadsOk D ⟨a1, a2, a3⟩
  case neg =>
    have HH := Lib.hid hH
    have HNO := Lib.hid (show ¬ cbOk D X ⟨a1, a2, a3⟩ n s from fun hh => hH hh.1)
    clear hH
    go_enter Try.func25, Try.ntmps25
    go_wp2_with fail
    rw [HW4.out]
    clear HW4
    refine (iHeadsValid_any _ A0 c0 D ⟨a1, a2, a3⟩ _ (HD0.out.new HC.out)).mono ?_
    rintro e w5 ⟨rfl, hc5⟩
    rw [decide_eq_false HH.out]
    replace HB1 := Lib.hid (HB1.out.chg hc5 (fun x => x))
    replace HB2 := Lib.hid (HB2.out.chg hc5 (fun x => x))
    replace HB3 := Lib.hid (HB3.out.chg hc5 (fun x => x))
    replace HB4 := Lib.hid (HB4.out.chg hc5 (fun x => x))
    replace HC := Lib.hid (HC.out.trans hc5)
    clear hc5
    have hb3 := HB3.out
    have hb4 := HB4.out
    have r0 : w5.cell? ⟨(w.heap.size + 1 + 1), 0, none⟩ = some (.slice none 0 0) := (hb3.cell _).trans rfl
    have rf0 := hb3.frozen 0
    have q0 : w5.cell? ⟨(w.heap.size + 1 + 1 + 1), 0, none⟩ = some (.int .i64 0) := (hb4.cell _).trans rfl
    have qf0 := hb4.frozen 0
    have q1 : w5.cell? ⟨(w.heap.size + 1 + 1 + 1), 1, none⟩ = some (.int .i64 0) := (hb4.cell _).trans rfl
    have qf1 := hb4.frozen 1
    have q2 : w5.cell? ⟨(w.heap.size + 1 + 1 + 1), 2, none⟩ = some (.int .i64 0) := (hb4.cell _).trans rfl
    have qf2 := hb4.frozen 2
    clear hb3 hb4
    go_wp2_with fail
    (try simp only [Exit.inBlock, Exit.then])
    refine bodyPost_ret (v := .tuple #[.slice none 0 0, .agg #[.slice none 0 0], .agg #[.int .i64 0, .int .i64 0, .int .i64 0], .int .i64 0, .bool false]) (by simp [results, Try.results25, go_sem, *]) rfl ?_
    exact CleanP.no (h := ⟨a1, a2, a3⟩) HNO.out ((HC.out.own ((Chg.refl (· = w.heap.size + 1 + 1) w5).setCell (p := ⟨w.heap.size + 1 + 1, 0, none⟩) (.inl rfl) (.slice none 0 0)) (by omega)).own (chg3h (F := (· = w.heap.size + 1 + 1 + 1)) (g := w.heap.size + 1 + 1 + 1) (Chg.refl (· = w.heap.size + 1 + 1 + 1) _) (.inl rfl)) (by omega))
  have HH := Lib.hid hH
  by_cases hX : tabOk X
  case neg =>
    have HX := Lib.hid hX
    have HNO := Lib.hid (show ¬ cbOk D X ⟨a1, a2, a3⟩ n s from fun hh => hX hh.2.1)
    clear hX hH
    go_enter Try.func25, Try.ntmps25
    go_wp2_with fail
    rw [HW4.out]
    clear HW4
    refine (iHeadsValid_any _ A0 c0 D ⟨a1, a2, a3⟩ _ (HD0.out.new HC.out)).mono ?_
    rintro e w5 ⟨rfl, hc5⟩
    rw [decide_eq_true HH.out]
    replace HB1 := Lib.hid (HB1.out.chg hc5 (fun x => x))
    replace HB2 := Lib.hid (HB2.out.chg hc5 (fun x => x))
    replace HB3 := Lib.hid (HB3.out.chg hc5 (fun x => x))
    replace HB4 := Lib.hid (HB4.out.chg hc5 (fun x => x))
    replace HC := Lib.hid (HC.out.trans hc5)
    clear hc5
    have hbt := HB1.out
    have t0 : w5.cell? ⟨w.heap.size, 0, none⟩ = some (.slice A X.length c) := (hbt.cell _).trans rfl
    clear hbt
    go_wp2_with fail
    refine (iTableValid_any _ A c X _ (HT0.out.new HC.out)).mono ?_
    rintro e w6 ⟨tb, rfl, htb, hc6⟩
    obtain rfl : tb = false := by cases tb with | false => rfl | true => exact absurd (htb.1 rfl) HX.out
    clear htb
    replace HB1 := Lib.hid (HB1.out.chg hc6 (fun x => x))
    replace HB2 := Lib.hid (HB2.out.chg hc6 (fun x => x))
    replace HB3 := Lib.hid (HB3.out.chg hc6 (fun x => x))
    replace HB4 := Lib.hid (HB4.out.chg hc6 (fun x => x))
    replace HC := Lib.hid (HC.out.trans hc6)
    clear hc6
    clear t0
    have hb3 := HB3.out
    have hb4 := HB4.out
    have r0 : w6.cell? ⟨(w.heap.size + 1 + 1), 0, none⟩ = some (.slice none 0 0) := (hb3.cell _).trans rfl
    have rf0 := hb3.frozen 0
    have q0 : w6.cell? ⟨(w.heap.size + 1 + 1 + 1), 0, none⟩ = some (.int .i64 0) := (hb4.cell _).trans rfl
    have qf0 := hb4.frozen 0
    have q1 : w6.cell? ⟨(w.heap.size + 1 + 1 + 1), 1, none⟩ = some (.int .i64 0) := (hb4.cell _).trans rfl
    have qf1 := hb4.frozen 1
    have q2 : w6.cell? ⟨(w.heap.size + 1 + 1 + 1), 2, none⟩ = some (.int .i64 0) := (hb4.cell _).trans rfl
    have qf2 := hb4.frozen 2
    clear hb3 hb4
    go_wp2_with fail
    (try simp only [Exit.inBlock, Exit.then])
    refine bodyPost_ret (v := .tuple #[.slice none 0 0, .agg #[.slice none 0 0], .agg #[.int .i64 0, .int .i64 0, .int .i64 0], .int .i64 0, .bool false]) (by simp [results, Try.results25, go_sem, *]) rfl ?_
    exact CleanP.no (h := ⟨a1, a2, a3⟩) HNO.out ((HC.out.own ((Chg.refl (· = w.heap.size + 1 + 1) w6).setCell (p := ⟨w.heap.size + 1 + 1, 0, none⟩) (.inl rfl) (.slice none 0 0)) (by omega)).own (chg3h (F := (· = w.heap.size + 1 + 1 + 1)) (g := w.heap.size + 1 + 1 + 1) (Chg.refl (· = w.heap.size + 1 + 1 + 1) _) (.inl rfl)) (by omega))
  have HX := Lib.hid hX
  have HL8 := Lib.hid hX.1
  have hl := hH.1.1
  by_cases hn : 0 ≤ n ∧ n < (D.length : Int)
  case neg =>
    have HNO := Lib.hid (show ¬ cbOk D X ⟨a1, a2, a3⟩ n s from fun hh => hn hh.2.2.1)
    have HNN := Lib.hid hn
    by_cases hn0 : n < 0
    all_goals
      (try (have hn1 : (D.length : Int) ≤ n := by omega))
      clear hn hX hH
      go_enter Try.func25, Try.ntmps25
      go_wp2_with fail
      rw [HW4.out]
      clear HW4
      refine (iHeadsValid_any _ A0 c0 D ⟨a1, a2, a3⟩ _ (HD0.out.new HC.out)).mono ?_
      rintro e w5 ⟨rfl, hc5⟩
      rw [decide_eq_true HH.out]
      replace HB1 := Lib.hid (HB1.out.chg hc5 (fun x => x))
      replace HB2 := Lib.hid (HB2.out.chg hc5 (fun x => x))
      replace HB3 := Lib.hid (HB3.out.chg hc5 (fun x => x))
      replace HB4 := Lib.hid (HB4.out.chg hc5 (fun x => x))
      replace HC := Lib.hid (HC.out.trans hc5)
      clear hc5
      have hbt := HB1.out
      have t0 : w5.cell? ⟨w.heap.size, 0, none⟩ = some (.slice A X.length c) := (hbt.cell _).trans rfl
      clear hbt
      go_wp2_with fail
      refine (iTableValid_any _ A c X _ (HT0.out.new HC.out)).mono ?_
      rintro e w6 ⟨tb, rfl, htb, hc6⟩
      obtain rfl : tb = true := by exact htb.2 HX.out
      clear htb
      replace HB1 := Lib.hid (HB1.out.chg hc6 (fun x => x))
      replace HB2 := Lib.hid (HB2.out.chg hc6 (fun x => x))
      replace HB3 := Lib.hid (HB3.out.chg hc6 (fun x => x))
      replace HB4 := Lib.hid (HB4.out.chg hc6 (fun x => x))
      replace HC := Lib.hid (HC.out.trans hc6)
      clear hc6
      clear t0
      have hb3 := HB3.out
      have hb4 := HB4.out
      have r0 : w6.cell? ⟨(w.heap.size + 1 + 1), 0, none⟩ = some (.slice none 0 0) := (hb3.cell _).trans rfl
      have rf0 := hb3.frozen 0
      have q0 : w6.cell? ⟨(w.heap.size + 1 + 1 + 1), 0, none⟩ = some (.int .i64 0) := (hb4.cell _).trans rfl
      have qf0 := hb4.frozen 0
      have q1 : w6.cell? ⟨(w.heap.size + 1 + 1 + 1), 1, none⟩ = some (.int .i64 0) := (hb4.cell _).trans rfl
      have qf1 := hb4.frozen 1
      have q2 : w6.cell? ⟨(w.heap.size + 1 + 1 + 1), 2, none⟩ = some (.int .i64 0) := (hb4.cell _).trans rfl
      have qf2 := hb4.frozen 2
      clear hb3 hb4
      go_wp2_with fail
      (try simp only [Exit.inBlock, Exit.then])
      refine bodyPost_ret (v := .tuple #[.slice none 0 0, .agg #[.slice none 0 0], .agg #[.int .i64 0, .int .i64 0, .int .i64 0], .int .i64 0, .bool false]) (by simp [results, Try.results25, go_sem, *]) rfl ?_
      exact CleanP.no (h := ⟨a1, a2, a3⟩) HNO.out ((HC.out.own ((Chg.refl (· = w.heap.size + 1 + 1) w6).setCell (p := ⟨w.heap.size + 1 + 1, 0, none⟩) (.inl rfl) (.slice none 0 0)) (by omega)).own (chg3h (F := (· = w.heap.size + 1 + 1 + 1)) (g := w.heap.size + 1 + 1 + 1) (Chg.refl (· = w.heap.size + 1 + 1 + 1) _) (.inl rfl)) (by omega))
  obtain ⟨N, rfl⟩ := Int.eq_ofNat_of_zero_le hn.1
  have hn0 : ¬ ((N : Int) < 0) := by omega
  have hn1 : ¬ ((D.length : Int) ≤ (N : Int)) := by omega
  by_cases hs : 1 ≤ s ∧ s ≤ 1000000
  case neg =>
    have HNO := Lib.hid (show ¬ cbOk D X ⟨a1, a2, a3⟩ (N : Int) s from fun hh => hs hh.2.2.2.1)
    have HNN := Lib.hid hs
    by_cases hs0 : s < 1
    all_goals
      (try (have hs1 : (1000000 : Int) < s := by omega))
      clear hs hX hH
      go_enter Try.func25, Try.ntmps25
      go_wp2_with fail
      rw [HW4.out]
      clear HW4
      refine (iHeadsValid_any _ A0 c0 D ⟨a1, a2, a3⟩ _ (HD0.out.new HC.out)).mono ?_
      rintro e w5 ⟨rfl, hc5⟩
      rw [decide_eq_true HH.out]
      replace HB1 := Lib.hid (HB1.out.chg hc5 (fun x => x))
      replace HB2 := Lib.hid (HB2.out.chg hc5 (fun x => x))
      replace HB3 := Lib.hid (HB3.out.chg hc5 (fun x => x))
      replace HB4 := Lib.hid (HB4.out.chg hc5 (fun x => x))
      replace HC := Lib.hid (HC.out.trans hc5)
      clear hc5
      have hbt := HB1.out
      have t0 : w5.cell? ⟨w.heap.size, 0, none⟩ = some (.slice A X.length c) := (hbt.cell _).trans rfl
      clear hbt
      go_wp2_with fail
      refine (iTableValid_any _ A c X _ (HT0.out.new HC.out)).mono ?_
      rintro e w6 ⟨tb, rfl, htb, hc6⟩
      obtain rfl : tb = true := by exact htb.2 HX.out
      clear htb
      replace HB1 := Lib.hid (HB1.out.chg hc6 (fun x => x))
      replace HB2 := Lib.hid (HB2.out.chg hc6 (fun x => x))
      replace HB3 := Lib.hid (HB3.out.chg hc6 (fun x => x))
      replace HB4 := Lib.hid (HB4.out.chg hc6 (fun x => x))
      replace HC := Lib.hid (HC.out.trans hc6)
      clear hc6
      clear t0
      have hb3 := HB3.out
      have hb4 := HB4.out
      have r0 : w6.cell? ⟨(w.heap.size + 1 + 1), 0, none⟩ = some (.slice none 0 0) := (hb3.cell _).trans rfl
      have rf0 := hb3.frozen 0
      have q0 : w6.cell? ⟨(w.heap.size + 1 + 1 + 1), 0, none⟩ = some (.int .i64 0) := (hb4.cell _).trans rfl
      have qf0 := hb4.frozen 0
      have q1 : w6.cell? ⟨(w.heap.size + 1 + 1 + 1), 1, none⟩ = some (.int .i64 0) := (hb4.cell _).trans rfl
      have qf1 := hb4.frozen 1
      have q2 : w6.cell? ⟨(w.heap.size + 1 + 1 + 1), 2, none⟩ = some (.int .i64 0) := (hb4.cell _).trans rfl
      have qf2 := hb4.frozen 2
      clear hb3 hb4
      go_wp2_with fail
      (try simp only [Exit.inBlock, Exit.then])
      refine bodyPost_ret (v := .tuple #[.slice none 0 0, .agg #[.slice none 0 0], .agg #[.int .i64 0, .int .i64 0, .int .i64 0], .int .i64 0, .bool false]) (by simp [results, Try.results25, go_sem, *]) rfl ?_
      exact CleanP.no (h := ⟨a1, a2, a3⟩) HNO.out ((HC.out.own ((Chg.refl (· = w.heap.size + 1 + 1) w6).setCell (p := ⟨w.heap.size + 1 + 1, 0, none⟩) (.inl rfl) (.slice none 0 0)) (by omega)).own (chg3h (F := (· = w.heap.size + 1 + 1 + 1)) (g := w.heap.size + 1 + 1 + 1) (Chg.refl (· = w.heap.size + 1 + 1 + 1) _) (.inl rfl)) (by omega))
  have hs0 : ¬ (s < 1) := by omega
  have hs1 : ¬ ((1000000 : Int) < s) := by omega
  by_cases hF : fits D X
  case neg =>
    have HF := Lib.hid hF
    have HNO := Lib.hid (show ¬ cbOk D X ⟨a1, a2, a3⟩ (N : Int) s from fun hh => hF hh.2.2.2.2)
    clear hX hH hF
    go_enter Try.func25, Try.ntmps25
    go_wp2_with fail
    rw [HW4.out]
    clear HW4
    refine (iHeadsValid_any _ A0 c0 D ⟨a1, a2, a3⟩ _ (HD0.out.new HC.out)).mono ?_
    rintro e w5 ⟨rfl, hc5⟩
    rw [decide_eq_true HH.out]
    replace HB1 := Lib.hid (HB1.out.chg hc5 (fun x => x))
    replace HB2 := Lib.hid (HB2.out.chg hc5 (fun x => x))
    replace HB3 := Lib.hid (HB3.out.chg hc5 (fun x => x))
    replace HB4 := Lib.hid (HB4.out.chg hc5 (fun x => x))
    replace HC := Lib.hid (HC.out.trans hc5)
    clear hc5
    have hbt := HB1.out
    have t0 : w5.cell? ⟨w.heap.size, 0, none⟩ = some (.slice A X.length c) := (hbt.cell _).trans rfl
    clear hbt
    go_wp2_with fail
    refine (iTableValid_any _ A c X _ (HT0.out.new HC.out)).mono ?_
    rintro e w6 ⟨tb, rfl, htb, hc6⟩
    obtain rfl : tb = true := by exact htb.2 HX.out
    clear htb
    replace HB1 := Lib.hid (HB1.out.chg hc6 (fun x => x))
    replace HB2 := Lib.hid (HB2.out.chg hc6 (fun x => x))
    replace HB3 := Lib.hid (HB3.out.chg hc6 (fun x => x))
    replace HB4 := Lib.hid (HB4.out.chg hc6 (fun x => x))
    replace HC := Lib.hid (HC.out.trans hc6)
    clear hc6
    clear t0
    have hbt := HB1.out
    have t0 : w6.cell? ⟨w.heap.size, 0, none⟩ = some (.slice A X.length c) := (hbt.cell _).trans rfl
    clear hbt
    go_wp2_with fail
    refine (iTableFits_any _ _ A0 c0 D A c X _ (HD0.out.new HC.out) HH.out.1 (HT0.out.new HC.out) HX.out).mono ?_
    rintro e w7 ⟨tb, rfl, htb, hc7⟩
    obtain rfl : tb = false := by cases tb with | false => rfl | true => exact absurd (htb.1 rfl) HF.out
    clear htb
    replace HB1 := Lib.hid (HB1.out.chg hc7 (fun x => x))
    replace HB2 := Lib.hid (HB2.out.chg hc7 (fun x => x))
    replace HB3 := Lib.hid (HB3.out.chg hc7 (fun x => x))
    replace HB4 := Lib.hid (HB4.out.chg hc7 (fun x => x))
    replace HC := Lib.hid (HC.out.trans hc7)
    clear hc7
    clear t0
    have hb3 := HB3.out
    have hb4 := HB4.out
    have r0 : w7.cell? ⟨(w.heap.size + 1 + 1), 0, none⟩ = some (.slice none 0 0) := (hb3.cell _).trans rfl
    have rf0 := hb3.frozen 0
    have q0 : w7.cell? ⟨(w.heap.size + 1 + 1 + 1), 0, none⟩ = some (.int .i64 0) := (hb4.cell _).trans rfl
    have qf0 := hb4.frozen 0
    have q1 : w7.cell? ⟨(w.heap.size + 1 + 1 + 1), 1, none⟩ = some (.int .i64 0) := (hb4.cell _).trans rfl
    have qf1 := hb4.frozen 1
    have q2 : w7.cell? ⟨(w.heap.size + 1 + 1 + 1), 2, none⟩ = some (.int .i64 0) := (hb4.cell _).trans rfl
    have qf2 := hb4.frozen 2
    clear hb3 hb4
    go_wp2_with fail
    (try simp only [Exit.inBlock, Exit.then])
    refine bodyPost_ret (v := .tuple #[.slice none 0 0, .agg #[.slice none 0 0], .agg #[.int .i64 0, .int .i64 0, .int .i64 0], .int .i64 0, .bool false]) (by simp [results, Try.results25, go_sem, *]) rfl ?_
    exact CleanP.no (h := ⟨a1, a2, a3⟩) HNO.out ((HC.out.own ((Chg.refl (· = w.heap.size + 1 + 1) w7).setCell (p := ⟨w.heap.size + 1 + 1, 0, none⟩) (.inl rfl) (.slice none 0 0)) (by omega)).own (chg3h (F := (· = w.heap.size + 1 + 1 + 1)) (g := w.heap.size + 1 + 1 + 1) (Chg.refl (· = w.heap.size + 1 + 1 + 1) _) (.inl rfl)) (by omega))
  have HF := Lib.hid hF
  have HOK := Lib.hid (show cbOk D X ⟨a1, a2, a3⟩ (N : Int) s from ⟨hH, hX, hn, hs, hF⟩)
  have HNL := Lib.hid (show N < D.length by omega)
  clear hX hH hF hn
  go_enter Try.func25, Try.ntmps25
  go_wp2_with fail
  rw [HW4.out]
  clear HW4
  refine (iHeadsValid_any _ A0 c0 D ⟨a1, a2, a3⟩ _ (HD0.out.new HC.out)).mono ?_
  rintro e w5 ⟨rfl, hc5⟩
  rw [decide_eq_true HH.out]
  replace HB1 := Lib.hid (HB1.out.chg hc5 (fun x => x))
  replace HB2 := Lib.hid (HB2.out.chg hc5 (fun x => x))
  replace HB3 := Lib.hid (HB3.out.chg hc5 (fun x => x))
  replace HB4 := Lib.hid (HB4.out.chg hc5 (fun x => x))
  replace HC := Lib.hid (HC.out.trans hc5)
  clear hc5
  have hbt := HB1.out
  have t0 : w5.cell? ⟨w.heap.size, 0, none⟩ = some (.slice A X.length c) := (hbt.cell _).trans rfl
  clear hbt
  go_wp2_with fail
  refine (iTableValid_any _ A c X _ (HT0.out.new HC.out)).mono ?_
  rintro e w6 ⟨tb, rfl, htb, hc6⟩
  obtain rfl : tb = true := by exact htb.2 HX.out
  clear htb
  replace HB1 := Lib.hid (HB1.out.chg hc6 (fun x => x))
  replace HB2 := Lib.hid (HB2.out.chg hc6 (fun x => x))
  replace HB3 := Lib.hid (HB3.out.chg hc6 (fun x => x))
  replace HB4 := Lib.hid (HB4.out.chg hc6 (fun x => x))
  replace HC := Lib.hid (HC.out.trans hc6)
  clear hc6
  clear t0
  have hbt := HB1.out
  have t0 : w6.cell? ⟨w.heap.size, 0, none⟩ = some (.slice A X.length c) := (hbt.cell _).trans rfl
  clear hbt
  go_wp2_with fail
  refine (iTableFits_any _ _ A0 c0 D A c X _ (HD0.out.new HC.out) HH.out.1 (HT0.out.new HC.out) HX.out).mono ?_
  rintro e w7 ⟨tb, rfl, htb, hc7⟩
  obtain rfl : tb = true := by exact htb.2 HF.out
  clear htb
  replace HB1 := Lib.hid (HB1.out.chg hc7 (fun x => x))
  replace HB2 := Lib.hid (HB2.out.chg hc7 (fun x => x))
  replace HB3 := Lib.hid (HB3.out.chg hc7 (fun x => x))
  replace HB4 := Lib.hid (HB4.out.chg hc7 (fun x => x))
  replace HC := Lib.hid (HC.out.trans hc7)
  clear hc7
  clear t0
  have hbh := HB2.out
  have u0 : w7.cell? ⟨(w.heap.size + 1), 0, none⟩ = some (.int .i64 a1) := (hbh.cell _).trans rfl
  have u1 : w7.cell? ⟨(w.heap.size + 1), 1, none⟩ = some (.int .i64 a2) := (hbh.cell _).trans rfl
  have u2 : w7.cell? ⟨(w.heap.size + 1), 2, none⟩ = some (.int .i64 a3) := (hbh.cell _).trans rfl
  clear hbh
  go_wp2_with fail
  refine (isHead_any ⟨a1, a2, a3⟩ (N : Int) _).mono ?_
  rintro e w8 ⟨rfl, hc8⟩
  replace HB1 := Lib.hid (HB1.out.chg hc8 (fun x => x))
  replace HB2 := Lib.hid (HB2.out.chg hc8 (fun x => x))
  replace HB3 := Lib.hid (HB3.out.chg hc8 (fun x => x))
  replace HB4 := Lib.hid (HB4.out.chg hc8 (fun x => x))
  replace HC := Lib.hid (HC.out.trans hc8)
  clear hc8
  clear u0 u1 u2
  rw [HL8.out] at HB1
  by_cases hI : isHead ⟨a1, a2, a3⟩ (N : Int)
  case pos =>
    have HSAME := Lib.hid (show cleanBlock D X ⟨a1, a2, a3⟩ (N : Int) s = ⟨D, X, ⟨a1, a2, a3⟩, 0, false⟩ by unfold cleanBlock; rw [if_pos HOK.out, if_pos hI])
    rw [decide_eq_true hI]
    clear hI
    have HFA := Lib.hid (show w.heap.size + 1 + 1 + 1 < w8.heap.size from HB4.out.lt)
    have HCD := Lib.hid (show ∀ wx, Chg (fun k => k = w.heap.size + 1 + 1 ∨ k = w.heap.size + 1 + 1 + 1) w8 wx → Calls Try.prog 87 #[.slice A0 D.length c0] wx (fun e w' => ∃ A5 c5 T5, e = .returned (.slice A5 D.length c5) ∧ Hid (bksOf T5 = D) ∧ DevQ wx.heap.size w'.heap.size w' A5 c5 T5 ∧ Chg NoB wx w') from fun wx hq => (cloneDevice_any _ A0 c0 D wx (((HD0.out.new HC.out).chg hq (fun i hi hk => by have h5 := hi.2; rcases hk with h6 | h6 <;> omega))) HH.out.1).mono fun e w' ⟨A5, c5, T5, h1, h2, h3, h4⟩ => ⟨A5, c5, T5, h1, Lib.hid h2, h3, h4⟩)
    have HCT := Lib.hid (show ∀ wx, Chg (fun k => k = w.heap.size + 1 + 1 ∨ k = w.heap.size + 1 + 1 + 1) w8 wx → Calls Try.prog 88 #[.agg #[.slice A 8 c]] wx (fun e w' => ∃ g6 T6, e = .returned (.agg #[.slice (some ⟨g6, 0, none⟩) 8 8]) ∧ Hid (listsOf T6 = X) ∧ TabO wx.heap.size w'.heap.size w' (some ⟨g6, 0, none⟩) 8 T6 ∧ Chg NoB wx w') from fun wx hq => by
      have h9 := cloneTable_any _ A c X wx (((HT0.out.new HC.out).chg hq (fun i hi hk => by have h5 := hi.2; rcases hk with h6 | h6 <;> omega))) HX.out
      rw [HL8.out] at h9
      exact h9.mono fun e w' ⟨g6, T6, h1, h2, h3, h4⟩ => ⟨g6, T6, h1, Lib.hid h2, h4, h3⟩)
    have hbt := HB1.out
    have t0 : w8.cell? ⟨w.heap.size, 0, none⟩ = some (.slice A 8 c) := (hbt.cell _).trans rfl
    have hbh := HB2.out
    have u0 : w8.cell? ⟨(w.heap.size + 1), 0, none⟩ = some (.int .i64 a1) := (hbh.cell _).trans rfl
    have u1 : w8.cell? ⟨(w.heap.size + 1), 1, none⟩ = some (.int .i64 a2) := (hbh.cell _).trans rfl
    have u2 : w8.cell? ⟨(w.heap.size + 1), 2, none⟩ = some (.int .i64 a3) := (hbh.cell _).trans rfl
    clear hbt hbh
    go_wp2_with fail
    refine wp_region_rg (WInv := fun _ m w5 => Chg (fun k => k = w.heap.size + 1 + 1 ∨ k = w.heap.size + 1 + 1 + 1) w8 w5 ∧ StI (w.heap.size + 1 + 1) 31 #[.slice none 0 0] 6 3 m w5 ∧ StI (w.heap.size + 1 + 1 + 1) 46 #[.int .i64 0, .int .i64 0, .int .i64 0] 7 4 m w5) (R := Chg (fun k => k = w.heap.size + 1 + 1 ∨ k = w.heap.size + 1 + 1 + 1)) (Post := PL [fun v w => v = .slice A0 D.length c0, fun v w => ∃ A5 : Option Addr, ∃ c5 : Nat, ∃ T5 : List BkO, v = .slice A5 D.length c5 ∧ Hid (bksOf T5 = D) ∧ DevQ w8.heap.size w.heap.size w A5 c5 T5, fun v w => v = .agg #[.slice A 8 c], fun v w => ∃ g6 : Nat, ∃ T6 : List RowO, v = .agg #[.slice (some ⟨g6, 0, none⟩) 8 8] ∧ Hid (listsOf T6 = X) ∧ TabO w8.heap.size w.heap.size w (some ⟨g6, 0, none⟩) 8 T6, fun v w => v = .agg #[.int .i64 a1, .int .i64 a2, .int .i64 a3], fun v w => ∃ A5 : Option Addr, ∃ c5 : Nat, ∃ T5 : List BkO, v = .slice A5 D.length c5 ∧ Hid (bksOf T5 = D) ∧ DevQ w8.heap.size w.heap.size w A5 c5 T5, fun _ _ => True, fun _ _ => True, fun v w => v = .int .i64 0, fun v w => v = .bool false]) (by kernel_rfl) (by kernel_rfl) ?_ (pl_stab ⟨(fun _ _ _ h _ => h), (fun _ _ _ ⟨A5, c5, T5, hv, hT5, hO5⟩ hR => ⟨A5, c5, T5, hv, hT5, ((hO5.chg hR (fun i h1 h2 h3 => by have h4 := HFA.out; omega)).more (Nat.le_refl _) hR.size)⟩), (fun _ _ _ h _ => h), (fun _ _ _ ⟨g6, T6, hv, hT6, hO6⟩ hR => ⟨g6, T6, hv, hT6, ((hO6.chg hR (fun i h1 h2 h3 => by have h4 := HFA.out; omega)).more (Nat.le_refl _) hR.size)⟩), (fun _ _ _ h _ => h), (fun _ _ _ ⟨A5, c5, T5, hv, hT5, hO5⟩ hR => ⟨A5, c5, T5, hv, hT5, ((hO5.chg hR (fun i h1 h2 h3 => by have h4 := HFA.out; omega)).more (Nat.le_refl _) hR.size)⟩), (fun _ _ _ _ _ => trivial), (fun _ _ _ _ _ => trivial), (fun _ _ _ h _ => h), (fun _ _ _ h _ => h), trivial⟩) ⟨(Chg.refl _ _).drew, .inl ⟨rfl, HB3.out.chg (Chg.refl NoB _).drew (fun x => x)⟩, .inl ⟨rfl, HB4.out.chg (Chg.refl NoB _).drew (fun x => x)⟩⟩ ?_ ?_
    · exact fun _ _ _ _ h _ _ => h
    · refine ⟨?_, ?_, ?_, ?_, ?_, ?_, ?_, ?_, ?_, ?_, trivial⟩
      · rintro kc m a w5 hkc ⟨hch, hst0, hst1⟩ hm hn
        obtain ⟨h0, -⟩ := hn
        have e0 : a.tmps[0]?.getD undef = .slice A0 D.length c0 := h0
        exact rg_val (v := .slice A0 D.length c0) (by simp [execOp, go_sem, e0]) rfl ⟨hch, hst0.keep (by decide) hm (Chg.refl NoB _) (fun x => x), hst1.keep (by decide) hm (Chg.refl NoB _) (fun x => x)⟩ (Chg.refl _ _) rfl
      · rintro kc m a w5 hkc ⟨hch, hst0, hst1⟩ hm hn
        obtain ⟨⟨_, e0, m0, rfl⟩, -⟩ := hn
        refine rg_call (f := 87) (args := #[.slice A0 D.length c0]) (by simp [go_sem, e0]) rfl ?_
        refine (HCD.out _ hch).mono ?_
        rintro e' w6 ⟨A5, c5, T5, rfl, hT5, hO5, hc6⟩
        exact ⟨_, rfl, ⟨hch.trans' hc6 (fun _ x => x.elim), hst0.keep (by decide) hm hc6 (fun x => x), hst1.keep (by decide) hm hc6 (fun x => x)⟩, (hc6.mono (fun _ _ x => x.elim)), ⟨A5, c5, T5, rfl, hT5, (hO5.more hch.size (Nat.le_refl _))⟩⟩
      · rintro kc m a w5 hkc ⟨hch, hst0, hst1⟩ hm hn
        obtain ⟨h0, -⟩ := hn
        have e0 : a.tmps[6]?.getD undef = .pointer (some ⟨w.heap.size, 0, none⟩) := h0
        have y0 := hch.cell t0 (show ¬ (w.heap.size = w.heap.size + 1 + 1 ∨ w.heap.size = w.heap.size + 1 + 1 + 1) by omega)
        exact rg_val (v := .agg #[.slice A 8 c]) (by simp [execOp, go_sem, e0, y0]) rfl ⟨hch, hst0.keep (by decide) hm (Chg.refl NoB _) (fun x => x), hst1.keep (by decide) hm (Chg.refl NoB _) (fun x => x)⟩ (Chg.refl _ _) rfl
      · rintro kc m a w5 hkc ⟨hch, hst0, hst1⟩ hm hn
        obtain ⟨⟨_, e0, m0, rfl⟩, -⟩ := hn
        refine rg_call (f := 88) (args := #[.agg #[.slice A 8 c]]) (by simp [go_sem, e0]) rfl ?_
        refine (HCT.out _ hch).mono ?_
        rintro e' w6 ⟨g6, T6, rfl, hT6, hO6, hc6⟩
        exact ⟨_, rfl, ⟨hch.trans' hc6 (fun _ x => x.elim), hst0.keep (by decide) hm hc6 (fun x => x), hst1.keep (by decide) hm hc6 (fun x => x)⟩, (hc6.mono (fun _ _ x => x.elim)), ⟨g6, T6, rfl, hT6, (hO6.more hch.size (Nat.le_refl _))⟩⟩
      · rintro kc m a w5 hkc ⟨hch, hst0, hst1⟩ hm hn
        obtain ⟨h0, -⟩ := hn
        have e0 : a.tmps[7]?.getD undef = .pointer (some ⟨w.heap.size + 1, 0, none⟩) := h0
        have y0 := hch.cell u0 (show ¬ (w.heap.size + 1 = w.heap.size + 1 + 1 ∨ w.heap.size + 1 = w.heap.size + 1 + 1 + 1) by omega)
        have y1 := hch.cell u1 (show ¬ (w.heap.size + 1 = w.heap.size + 1 + 1 ∨ w.heap.size + 1 = w.heap.size + 1 + 1 + 1) by omega)
        have y2 := hch.cell u2 (show ¬ (w.heap.size + 1 = w.heap.size + 1 + 1 ∨ w.heap.size + 1 = w.heap.size + 1 + 1 + 1) by omega)
        exact rg_val (v := .agg #[.int .i64 a1, .int .i64 a2, .int .i64 a3]) (by simp [execOp, go_sem, e0, y0, y1, y2]) rfl ⟨hch, hst0.keep (by decide) hm (Chg.refl NoB _) (fun x => x), hst1.keep (by decide) hm (Chg.refl NoB _) (fun x => x)⟩ (Chg.refl _ _) rfl
      · rintro kc m a w5 hkc ⟨hch, hst0, hst1⟩ hm hn
        obtain ⟨⟨_, e0, m0, A5, c5, T5, rfl, hT5, hO5⟩, -⟩ := hn
        exact rg_val (v := .slice A5 D.length c5) (by simp [execOp, go_sem, e0]) rfl ⟨hch, hst0.keep (by decide) hm (Chg.refl NoB _) (fun x => x), hst1.keep (by decide) hm (Chg.refl NoB _) (fun x => x)⟩ (Chg.refl _ _) ⟨A5, c5, T5, rfl, hT5, hO5⟩
      · rintro kc m a w5 hkc ⟨hch, hst0, hst1⟩ hm hn
        obtain ⟨h0, ⟨_, e1, m1, g6, T6, rfl, hT6, hO6⟩, -⟩ := hn
        have e0 : a.tmps[11]?.getD undef = .pointer (some ⟨w.heap.size + 1 + 1, 0, none⟩) := h0
        have hb := hst0.ready hm
        have f0 := hb.frozen 0
        have x0 : w5.cell? ⟨w.heap.size + 1 + 1, 0, none⟩ = some (.slice none 0 0) := (hb.cell _).trans rfl
        have hs : Chg (· = w.heap.size + 1 + 1) w5 (w5.setCell ⟨w.heap.size + 1 + 1, 0, none⟩ (.slice (some ⟨g6, 0, none⟩) 8 8)) := ((Chg.refl (· = w.heap.size + 1 + 1) w5).setCell (p := ⟨w.heap.size + 1 + 1, 0, none⟩) (.inl rfl) _)
        have hb' : Blk (w5.setCell ⟨w.heap.size + 1 + 1, 0, none⟩ (.slice (some ⟨g6, 0, none⟩) 8 8)) (w.heap.size + 1 + 1) 31 #[.slice (some ⟨g6, 0, none⟩) 8 8] := (hb.set_ 0 _)
        exact rg_skip (w' := (w5.setCell ⟨w.heap.size + 1 + 1, 0, none⟩ (.slice (some ⟨g6, 0, none⟩) 8 8))) (by simp [execOp, go_sem, e0, e1, x0, f0]) rfl ⟨hch.trans (hs.mono (fun _ _ x => .inl x)), StI.store (by decide) m1 hb', hst1.keep (by decide) hm hs (fun he => absurd (show w.heap.size + 1 + 1 + 1 = w.heap.size + 1 + 1 from he) (by omega))⟩ (hs.mono (fun _ _ x => .inl x)) trivial
      · rintro kc m a w5 hkc ⟨hch, hst0, hst1⟩ hm hn
        obtain ⟨h0, ⟨_, e1, m1, rfl⟩, -⟩ := hn
        have e0 : a.tmps[12]?.getD undef = .pointer (some ⟨w.heap.size + 1 + 1 + 1, 0, none⟩) := h0
        have hb := hst1.ready hm
        have f0 := hb.frozen 0
        have x0 : w5.cell? ⟨w.heap.size + 1 + 1 + 1, 0, none⟩ = some (.int .i64 0) := (hb.cell _).trans rfl
        have f1 := hb.frozen 1
        have x1 : w5.cell? ⟨w.heap.size + 1 + 1 + 1, 1, none⟩ = some (.int .i64 0) := (hb.cell _).trans rfl
        have f2 := hb.frozen 2
        have x2 : w5.cell? ⟨w.heap.size + 1 + 1 + 1, 2, none⟩ = some (.int .i64 0) := (hb.cell _).trans rfl
        have hs : Chg (· = w.heap.size + 1 + 1 + 1) w5 (((w5.setCell ⟨w.heap.size + 1 + 1 + 1, 0, none⟩ (.int .i64 a1)).setCell ⟨w.heap.size + 1 + 1 + 1, 1, none⟩ (.int .i64 a2)).setCell ⟨w.heap.size + 1 + 1 + 1, 2, none⟩ (.int .i64 a3)) := ((((Chg.refl (· = w.heap.size + 1 + 1 + 1) w5).setCell (p := ⟨w.heap.size + 1 + 1 + 1, 0, none⟩) (.inl rfl) _).setCell (p := ⟨w.heap.size + 1 + 1 + 1, 1, none⟩) (.inl rfl) _).setCell (p := ⟨w.heap.size + 1 + 1 + 1, 2, none⟩) (.inl rfl) _)
        have hb' : Blk (((w5.setCell ⟨w.heap.size + 1 + 1 + 1, 0, none⟩ (.int .i64 a1)).setCell ⟨w.heap.size + 1 + 1 + 1, 1, none⟩ (.int .i64 a2)).setCell ⟨w.heap.size + 1 + 1 + 1, 2, none⟩ (.int .i64 a3)) (w.heap.size + 1 + 1 + 1) 46 #[.int .i64 a1, .int .i64 a2, .int .i64 a3] := (((hb.set_ 0 _).set_ 1 _).set_ 2 _)
        exact rg_skip (w' := (((w5.setCell ⟨w.heap.size + 1 + 1 + 1, 0, none⟩ (.int .i64 a1)).setCell ⟨w.heap.size + 1 + 1 + 1, 1, none⟩ (.int .i64 a2)).setCell ⟨w.heap.size + 1 + 1 + 1, 2, none⟩ (.int .i64 a3))) (by simp [execOp, go_sem, e0, e1, x0, x1, x2, f0, f1, f2]) rfl ⟨hch.trans (hs.mono (fun _ _ x => .inr x)), hst0.keep (by decide) hm hs (fun he => absurd (show w.heap.size + 1 + 1 = w.heap.size + 1 + 1 + 1 from he) (by omega)), StI.store (by decide) m1 hb'⟩ (hs.mono (fun _ _ x => .inr x)) trivial
      · rintro kc m a w5 hkc ⟨hch, hst0, hst1⟩ hm hn
        exact rg_val (v := .int .i64 0) (by simp [execOp, go_sem]) rfl ⟨hch, hst0.keep (by decide) hm (Chg.refl NoB _) (fun x => x), hst1.keep (by decide) hm (Chg.refl NoB _) (fun x => x)⟩ (Chg.refl _ _) rfl
      · rintro kc m a w5 hkc ⟨hch, hst0, hst1⟩ hm hn
        exact rg_val (v := .bool false) (by simp [execOp, go_sem]) rfl ⟨hch, hst0.keep (by decide) hm (Chg.refl NoB _) (fun x => x), hst1.keep (by decide) hm (Chg.refl NoB _) (fun x => x)⟩ (Chg.refl _ _) rfl
    rintro m w5 ⟨hch, hst0, hst1⟩
    simp only [AllVals]
    rintro q0 m0 p0 q1 m1 p1 q2 m2 p2 q3 m3 p3 q4 m4 p4 q5 m5 p5 q6 m6 p6 q7 m7 p7 q8 m8 p8 q9 m9 p9
    obtain ⟨A5, c5, T5, rfl, hT5, hO5⟩ := p5
    obtain ⟨g6, T6, rfl, hT6, hO6⟩ := p3
    obtain rfl := p4
    obtain rfl := p8
    obtain rfl := p9
    have hb1 : Blk w5 (w.heap.size + 1 + 1) 31 #[.slice (some ⟨g6, 0, none⟩) 8 8] := hst0.done m6 m3
    have hb2 : Blk w5 (w.heap.size + 1 + 1 + 1) 46 #[.int .i64 a1, .int .i64 a2, .int .i64 a3] := hst1.done m7 m4
    have r0 : w5.cell? ⟨w.heap.size + 1 + 1, 0, none⟩ = some (.slice (some ⟨g6, 0, none⟩) 8 8) := (hb1.cell _).trans rfl
    have r1 : w5.cell? ⟨w.heap.size + 1 + 1 + 1, 0, none⟩ = some (.int .i64 a1) := (hb2.cell _).trans rfl
    have r2 : w5.cell? ⟨w.heap.size + 1 + 1 + 1, 1, none⟩ = some (.int .i64 a2) := (hb2.cell _).trans rfl
    have r3 : w5.cell? ⟨w.heap.size + 1 + 1 + 1, 2, none⟩ = some (.int .i64 a3) := (hb2.cell _).trans rfl
    have HCR := Lib.hid hch
    have HO5 := Lib.hid hO5
    have HT5 := Lib.hid hT5.out
    have HO6 := Lib.hid hO6
    have HT6 := Lib.hid hT6.out
    clear hch hO5 hT5 hO6 hT6 hb1 hb2 t0 u0 u1 u2 hst0 hst1
    clear p0 p1 p2 p6 p7
    simp only [Act.put, List.setIfInBounds_toArray, List.set_cons_succ, List.set_cons_zero]
    go_wp2_with fail
    (try simp only [Exit.inBlock, Exit.then])
    refine bodyPost_ret (v := .tuple #[.slice A5 D.length c5, .agg #[.slice (some ⟨g6, 0, none⟩) 8 8], .agg #[.int .i64 a1, .int .i64 a2, .int .i64 a3], .int .i64 0, .bool false]) (by simp [results, Try.results25, go_sem, *]) rfl ?_
    have hcc := HC.out.trans' HCR.out (fun i hi => .inr (by rcases hi with h6 | h6 <;> omega))
    unfold CleanP
    rw [HSAME.out]
    exact ⟨A5, c5, T5, some ⟨g6, 0, none⟩, 8, T6, by simp only [HL8.out], HT5.out, HT6.out, HO5.out.more HC.out.size (Nat.le_refl _), HO6.out.more HC.out.size (Nat.le_refl _), hcc⟩
  rw [decide_eq_false hI]
  have HI := Lib.hid hI
  clear hI
  have HCB := Lib.hid (show cleanBlock D X ⟨a1, a2, a3⟩ (N : Int) s = cbEnd D X ⟨a1, a2, a3⟩ N (cbRun D X N s 4 0 D X ⟨a1, a2, a3⟩ 0) by unfold cleanBlock; rw [if_pos HOK.out, if_neg HI.out]; rfl)
  have HFA := Lib.hid (show w.heap.size + 1 + 1 + 1 < w8.heap.size from HB4.out.lt)
  have HCD := Lib.hid (show ∀ wx, Chg NoB w8 wx → Calls Try.prog 87 #[.slice A0 D.length c0] wx (fun e w' => ∃ A5 c5 T5, e = .returned (.slice A5 D.length c5) ∧ Hid (bksOf T5 = D) ∧ DevQ wx.heap.size w'.heap.size w' A5 c5 T5 ∧ Chg NoB wx w') from fun wx hq => (cloneDevice_any _ A0 c0 D wx ((HD0.out.new HC.out).new hq) HH.out.1).mono fun e w' ⟨A5, c5, T5, h1, h2, h3, h4⟩ => ⟨A5, c5, T5, h1, Lib.hid h2, h3, h4⟩)
  have HCT := Lib.hid (show ∀ wx, Chg NoB w8 wx → Calls Try.prog 88 #[.agg #[.slice A 8 c]] wx (fun e w' => ∃ g6 T6, e = .returned (.agg #[.slice (some ⟨g6, 0, none⟩) 8 8]) ∧ Hid (listsOf T6 = X) ∧ TabO wx.heap.size w'.heap.size w' (some ⟨g6, 0, none⟩) 8 T6 ∧ Chg NoB wx w') from fun wx hq => by
    have h9 := cloneTable_any _ A c X wx ((HT0.out.new HC.out).new hq) HX.out
    rw [HL8.out] at h9
    exact h9.mono fun e w' ⟨g6, T6, h1, h2, h3, h4⟩ => ⟨g6, T6, h1, Lib.hid h2, h4, h3⟩)
  have hbt := HB1.out
  have t0 : w8.cell? ⟨w.heap.size, 0, none⟩ = some (.slice A 8 c) := (hbt.cell _).trans rfl
  have hbh := HB2.out
  have u0 : w8.cell? ⟨(w.heap.size + 1), 0, none⟩ = some (.int .i64 a1) := (hbh.cell _).trans rfl
  have u1 : w8.cell? ⟨(w.heap.size + 1), 1, none⟩ = some (.int .i64 a2) := (hbh.cell _).trans rfl
  have u2 : w8.cell? ⟨(w.heap.size + 1), 2, none⟩ = some (.int .i64 a3) := (hbh.cell _).trans rfl
  clear hbt hbh
  go_wp2_with fail
  refine wp_region_rg (WInv := fun _ m w5 => Chg (NoB) w8 w5 ∧ BoxI (w8.heap.size) 31 #[.slice none 0 0] 5 8 3 m w5 ∧ BoxI (w8.heap.size) 46 #[.int .i64 0, .int .i64 0, .int .i64 0] 6 9 4 m w5) (R := RB2 (w8.heap.size) 31 46) (Post := PL [fun v w => v = .slice A0 D.length c0, fun v w => ∃ A5 : Option Addr, ∃ c5 : Nat, ∃ T5 : List BkO, v = .slice A5 D.length c5 ∧ Hid (bksOf T5 = D) ∧ DevQ w8.heap.size w.heap.size w A5 c5 T5, fun v w => v = .agg #[.slice A 8 c], fun v w => ∃ g6 : Nat, ∃ T6 : List RowO, v = .agg #[.slice (some ⟨g6, 0, none⟩) 8 8] ∧ Hid (listsOf T6 = X) ∧ TabO w8.heap.size w.heap.size w (some ⟨g6, 0, none⟩) 8 T6, fun v w => v = .agg #[.int .i64 a1, .int .i64 a2, .int .i64 a3], fun _ _ => True, fun _ _ => True, fun v w => ∃ A5 : Option Addr, ∃ c5 : Nat, ∃ T5 : List BkO, v = .slice A5 D.length c5 ∧ Hid (bksOf T5 = D) ∧ DevQ w8.heap.size w.heap.size w A5 c5 T5, fun _ _ => True, fun _ _ => True, fun v w => v = .int .i64 0]) (by kernel_rfl) (by kernel_rfl) ?_ (pl_stab ⟨(fun _ _ _ h _ => h), (fun _ _ _ ⟨A5, c5, T5, hv, hT5, hO5⟩ hR => ⟨A5, c5, T5, hv, hT5, ((hO5.box2 hR).more (Nat.le_refl _) (Chg.size hR))⟩), (fun _ _ _ h _ => h), (fun _ _ _ ⟨g6, T6, hv, hT6, hO6⟩ hR => ⟨g6, T6, hv, hT6, ((hO6.box2 hR).more (Nat.le_refl _) (Chg.size hR))⟩), (fun _ _ _ h _ => h), (fun _ _ _ _ _ => trivial), (fun _ _ _ _ _ => trivial), (fun _ _ _ ⟨A5, c5, T5, hv, hT5, hO5⟩ hR => ⟨A5, c5, T5, hv, hT5, ((hO5.box2 hR).more (Nat.le_refl _) (Chg.size hR))⟩), (fun _ _ _ _ _ => trivial), (fun _ _ _ _ _ => trivial), (fun _ _ _ h _ => h), trivial⟩) ⟨(Chg.refl _ _).drew, BoxI.start, BoxI.start⟩ ?_ ?_
  · exact fun _ _ _ _ h _ _ => h
  · refine ⟨?_, ?_, ?_, ?_, ?_, ?_, ?_, ?_, ?_, ?_, ?_, trivial⟩
    · rintro kc m a w5 hkc ⟨hch, hbx0, hbx1⟩ hm hn
      obtain ⟨h0, -⟩ := hn
      have e0 : a.tmps[0]?.getD undef = .slice A0 D.length c0 := h0
      exact rg_val (v := .slice A0 D.length c0) (by simp [execOp, go_sem, e0]) rfl ⟨hch, hbx0.keep (by decide) (by decide) hm (Chg.refl NoB _) (fun _ _ x => x), hbx1.keep (by decide) (by decide) hm (Chg.refl NoB _) (fun _ _ x => x)⟩ (Chg.refl _ _) rfl
    · rintro kc m a w5 hkc ⟨hch, hbx0, hbx1⟩ hm hn
      obtain ⟨⟨_, e0, m0, rfl⟩, -⟩ := hn
      refine rg_call (f := 87) (args := #[.slice A0 D.length c0]) (by simp [go_sem, e0]) rfl ?_
      refine (HCD.out _ hch).mono ?_
      rintro e' w6 ⟨A5, c5, T5, rfl, hT5, hO5, hc6⟩
      exact ⟨_, rfl, ⟨hch.trans' hc6 (fun _ x => x.elim), hbx0.keep (by decide) (by decide) hm hc6 (fun _ _ x => x), hbx1.keep (by decide) (by decide) hm hc6 (fun _ _ x => x)⟩, (RB2.of hc6), ⟨A5, c5, T5, rfl, hT5, (hO5.more hch.size (Nat.le_refl _))⟩⟩
    · rintro kc m a w5 hkc ⟨hch, hbx0, hbx1⟩ hm hn
      obtain ⟨h0, -⟩ := hn
      have e0 : a.tmps[6]?.getD undef = .pointer (some ⟨w.heap.size, 0, none⟩) := h0
      have y0 := hch.cell t0 (fun x => x)
      exact rg_val (v := .agg #[.slice A 8 c]) (by simp [execOp, go_sem, e0, y0]) rfl ⟨hch, hbx0.keep (by decide) (by decide) hm (Chg.refl NoB _) (fun _ _ x => x), hbx1.keep (by decide) (by decide) hm (Chg.refl NoB _) (fun _ _ x => x)⟩ (Chg.refl _ _) rfl
    · rintro kc m a w5 hkc ⟨hch, hbx0, hbx1⟩ hm hn
      obtain ⟨⟨_, e0, m0, rfl⟩, -⟩ := hn
      refine rg_call (f := 88) (args := #[.agg #[.slice A 8 c]]) (by simp [go_sem, e0]) rfl ?_
      refine (HCT.out _ hch).mono ?_
      rintro e' w6 ⟨g6, T6, rfl, hT6, hO6, hc6⟩
      exact ⟨_, rfl, ⟨hch.trans' hc6 (fun _ x => x.elim), hbx0.keep (by decide) (by decide) hm hc6 (fun _ _ x => x), hbx1.keep (by decide) (by decide) hm hc6 (fun _ _ x => x)⟩, (RB2.of hc6), ⟨g6, T6, rfl, hT6, (hO6.more hch.size (Nat.le_refl _))⟩⟩
    · rintro kc m a w5 hkc ⟨hch, hbx0, hbx1⟩ hm hn
      obtain ⟨h0, -⟩ := hn
      have e0 : a.tmps[7]?.getD undef = .pointer (some ⟨w.heap.size + 1, 0, none⟩) := h0
      have y0 := hch.cell u0 (fun x => x)
      have y1 := hch.cell u1 (fun x => x)
      have y2 := hch.cell u2 (fun x => x)
      exact rg_val (v := .agg #[.int .i64 a1, .int .i64 a2, .int .i64 a3]) (by simp [execOp, go_sem, e0, y0, y1, y2]) rfl ⟨hch, hbx0.keep (by decide) (by decide) hm (Chg.refl NoB _) (fun _ _ x => x), hbx1.keep (by decide) (by decide) hm (Chg.refl NoB _) (fun _ _ x => x)⟩ (Chg.refl _ _) rfl
    · rintro kc m a w5 hkc ⟨hch, hbx0, hbx1⟩ hm hn
      have hca : Chg NoB w5 (w5.alloc (.cells #[.slice none 0 0] 31)) := (Chg.refl _ _).alloc _
      exact rg_val (v := .pointer (some ⟨w5.heap.size, 0, none⟩)) (w' := w5.alloc (.cells #[.slice none 0 0] 31)) (by simp [execOp, go_sem]) rfl ⟨hch.alloc _, hbx0.alloc (by decide) hm hch.size, hbx1.keep (by decide) (by decide) hm hca (fun _ _ x => x)⟩ (RB2.of hca) trivial
    · rintro kc m a w5 hkc ⟨hch, hbx0, hbx1⟩ hm hn
      have hca : Chg NoB w5 (w5.alloc (.cells #[.int .i64 0, .int .i64 0, .int .i64 0] 46)) := (Chg.refl _ _).alloc _
      exact rg_val (v := .pointer (some ⟨w5.heap.size, 0, none⟩)) (w' := w5.alloc (.cells #[.int .i64 0, .int .i64 0, .int .i64 0] 46)) (by simp [execOp, go_sem]) rfl ⟨hch.alloc _, hbx0.keep (by decide) (by decide) hm hca (fun _ _ x => x), hbx1.alloc (by decide) hm hch.size⟩ (RB2.of hca) trivial
    · rintro kc m a w5 hkc ⟨hch, hbx0, hbx1⟩ hm hn
      obtain ⟨⟨_, e0, m0, A5, c5, T5, rfl, hT5, hO5⟩, -⟩ := hn
      exact rg_val (v := .slice A5 D.length c5) (by simp [execOp, go_sem, e0]) rfl ⟨hch, hbx0.keep (by decide) (by decide) hm (Chg.refl NoB _) (fun _ _ x => x), hbx1.keep (by decide) (by decide) hm (Chg.refl NoB _) (fun _ _ x => x)⟩ (Chg.refl _ _) ⟨A5, c5, T5, rfl, hT5, hO5⟩
    · rintro kc m a w5 hkc ⟨hch, hbx0, hbx1⟩ hm hn
      obtain ⟨⟨p0, e0, m0, _⟩, ⟨_, e1, m1, g6, T6, rfl, hT6, hO6⟩, -⟩ := hn
      obtain ⟨bx, rfl, hBx, hb⟩ := hbx0.ready hm m0
      have f0 := hb.frozen 0
      have x0 : w5.cell? ⟨bx, 0, none⟩ = some (.slice none 0 0) := (hb.cell _).trans rfl
      have hs : Chg (· = bx) w5 (w5.setCell ⟨bx, 0, none⟩ (.slice (some ⟨g6, 0, none⟩) 8 8)) := ((Chg.refl (· = bx) w5).setCell (p := ⟨bx, 0, none⟩) (.inl rfl) _)
      have hb' : Blk (w5.setCell ⟨bx, 0, none⟩ (.slice (some ⟨g6, 0, none⟩) 8 8)) (bx) 31 #[.slice (some ⟨g6, 0, none⟩) 8 8] := (hb.set_ 0 _)
      exact rg_skip (w' := (w5.setCell ⟨bx, 0, none⟩ (.slice (some ⟨g6, 0, none⟩) 8 8))) (by simp [execOp, go_sem, e0, e1, x0, f0]) rfl ⟨hch.own hs hBx, BoxI.store (by decide) (by decide) m0 hBx m1 hb', hbx1.keepT (T' := 31) (by decide) (by decide) hm hs (fun k hk => by have hk' : k = bx := hk; subst hk'; exact ⟨_, hb⟩) (by decide)⟩ (RB2.box1 hs hBx hb) trivial
    · rintro kc m a w5 hkc ⟨hch, hbx0, hbx1⟩ hm hn
      obtain ⟨⟨p0, e0, m0, _⟩, ⟨_, e1, m1, rfl⟩, -⟩ := hn
      obtain ⟨bx, rfl, hBx, hb⟩ := hbx1.ready hm m0
      have f0 := hb.frozen 0
      have x0 : w5.cell? ⟨bx, 0, none⟩ = some (.int .i64 0) := (hb.cell _).trans rfl
      have f1 := hb.frozen 1
      have x1 : w5.cell? ⟨bx, 1, none⟩ = some (.int .i64 0) := (hb.cell _).trans rfl
      have f2 := hb.frozen 2
      have x2 : w5.cell? ⟨bx, 2, none⟩ = some (.int .i64 0) := (hb.cell _).trans rfl
      have hs : Chg (· = bx) w5 (((w5.setCell ⟨bx, 0, none⟩ (.int .i64 a1)).setCell ⟨bx, 1, none⟩ (.int .i64 a2)).setCell ⟨bx, 2, none⟩ (.int .i64 a3)) := ((((Chg.refl (· = bx) w5).setCell (p := ⟨bx, 0, none⟩) (.inl rfl) _).setCell (p := ⟨bx, 1, none⟩) (.inl rfl) _).setCell (p := ⟨bx, 2, none⟩) (.inl rfl) _)
      have hb' : Blk (((w5.setCell ⟨bx, 0, none⟩ (.int .i64 a1)).setCell ⟨bx, 1, none⟩ (.int .i64 a2)).setCell ⟨bx, 2, none⟩ (.int .i64 a3)) (bx) 46 #[.int .i64 a1, .int .i64 a2, .int .i64 a3] := (((hb.set_ 0 _).set_ 1 _).set_ 2 _)
      exact rg_skip (w' := (((w5.setCell ⟨bx, 0, none⟩ (.int .i64 a1)).setCell ⟨bx, 1, none⟩ (.int .i64 a2)).setCell ⟨bx, 2, none⟩ (.int .i64 a3))) (by simp [execOp, go_sem, e0, e1, x0, x1, x2, f0, f1, f2]) rfl ⟨hch.own hs hBx, hbx0.keepT (T' := 46) (by decide) (by decide) hm hs (fun k hk => by have hk' : k = bx := hk; subst hk'; exact ⟨_, hb⟩) (by decide), BoxI.store (by decide) (by decide) m0 hBx m1 hb'⟩ (RB2.box2 hs hBx hb) trivial
    · rintro kc m a w5 hkc ⟨hch, hbx0, hbx1⟩ hm hn
      exact rg_val (v := .int .i64 0) (by simp [execOp, go_sem]) rfl ⟨hch, hbx0.keep (by decide) (by decide) hm (Chg.refl NoB _) (fun _ _ x => x), hbx1.keep (by decide) (by decide) hm (Chg.refl NoB _) (fun _ _ x => x)⟩ (Chg.refl _ _) rfl
  rintro m w5 ⟨hch, hbx0, hbx1⟩
  simp only [AllVals]
  rintro q0 m0 p0 q1 m1 p1 q2 m2 p2 q3 m3 p3 q4 m4 p4 q5 m5 p5 q6 m6 p6 q7 m7 p7 q8 m8 p8 q9 m9 p9 q10 m10 p10
  obtain ⟨A5, c5, T5, rfl, hT5, hO5⟩ := p7
  obtain ⟨g6, T6, rfl, hT6, hO6⟩ := p3
  obtain rfl := p4
  obtain rfl := p10
  obtain ⟨b6, rfl, hb6, hk6⟩ := hbx0.done m5 m8 m3
  obtain ⟨b7, rfl, hb7, hk7⟩ := hbx1.done m6 m9 m4
  have HK6 := Lib.hid (show Blk w5 b6 31 #[.slice (some ⟨g6, 0, none⟩) 8 8] from hk6)
  have HK7 := Lib.hid (show Blk w5 b7 46 #[.int .i64 a1, .int .i64 a2, .int .i64 a3] from hk7)
  have HB67 := Lib.hid (And.intro hb6 hb7)
  have HO5 := Lib.hid hO5
  have HT5 := Lib.hid hT5.out
  have HO6 := Lib.hid hO6
  have HT6 := Lib.hid hT6.out
  have hcw := hch
  clear hch hO5 hT5 hO6 hT6 hk6 hk7 t0 u0 u1 u2 hbx0 hbx1 hb6 hb7
  clear p0 p1 p2 p5 p6 p8 p9
  simp only [Act.put, List.setIfInBounds_toArray, List.set_cons_succ, List.set_cons_zero]
  have HSZ8 := Lib.hid HC.out.size
  replace HB1 := Lib.hid (HB1.out.chg hcw (fun x => x))
  replace HB2 := Lib.hid (HB2.out.chg hcw (fun x => x))
  replace HB3 := Lib.hid (HB3.out.chg hcw (fun x => x))
  replace HB4 := Lib.hid (HB4.out.chg hcw (fun x => x))
  replace HC := Lib.hid (HC.out.trans hcw)
  clear hcw
  have HTG := Lib.hid (show ∀ wx, Chg NoB w wx → ∀ f p : Nat, f < 8 → p < 6 → Calls Try.prog 48 #[.agg #[.slice A 8 c], .int .i64 (f : Int), .int .i64 (p : Int)] wx (fun e w' => e = .returned (.int .i64 (tget X f p)) ∧ Chg NoB wx w') from fun wx hq f p hf hp => by
    have h9 := iTableGetT_any _ A c X wx (HT0.out.new hq) HX.out f p hf hp
    rw [HL8.out] at h9
    exact h9)
  have h4 := (HH.out.1.2 N HNL.out).2.1
  obtain ⟨bb, oo, A', c', rfl, hf, -, k1, hrp, hcc⟩ := HD0.out N HNL.out
  rw [h4] at k1
  have HRP := Lib.hid hrp
  have HP4 := Lib.hid h4
  replace k1 := HC.out.cell k1 (fun x => x)
  have hl1 := HH.out.1.1.1
  have hl12 := HH.out.1.1.2
  have hN0 : (0 : Int) ≤ (N : Int) := Int.natCast_nonneg _
  have hN1 : (N : Int) < (D.length : Int) := by omega
  have hwN : IntKind.i64.wrap ((N : Int) * 4) = (N : Int) * 4 := IntWalk.i64_in _ ⟨by omega, by omega⟩
  clear hrp hcc hf h4
  have HI0 := Lib.hid (show CbI D.length D X ⟨a1, a2, a3⟩ from ⟨HH.out, rfl, HX.out, HF.out⟩)
  have HNE := Lib.hid (show b6 ≠ b7 from fun he => by have h1 := HK6.out; rw [he] at h1; exact absurd (h1.sameTy HK7.out) (by decide))
  go_wp2_with fail
  go_loopw [15, 18, 77] (fun out mv i wr => ∃ (k : Nat) (E : List Bk) (Y : List (List Int)) (z1 z2 z3 : Int) (m : Nat) (Aq : Option Addr) (cq : Nat) (Tq : List BkO) (B1 E1 gt : Nat) (T2 : List RowO) (B2 E2 : Nat), k ≤ 4 ∧ i = .int .i64 k ∧ out = .slice Aq E.length cq ∧ mv = .int .i64 m ∧ m ≤ k ∧
      bksOf Tq = E ∧ DevQ B1 E1 wr Aq cq Tq ∧ w.heap.size ≤ B1 ∧ E1 ≤ wr.heap.size ∧ listsOf T2 = Y ∧ TabO B2 E2 wr (some ⟨gt, 0, none⟩) 8 T2 ∧ w.heap.size ≤ B2 ∧ E2 ≤ wr.heap.size ∧ Chg NoB w wr ∧
      Blk wr (w.heap.size) 31 #[.slice A 8 c] ∧ Blk wr (w.heap.size + 1) 46 #[.int .i64 a1, .int .i64 a2, .int .i64 a3] ∧ Blk wr (w.heap.size + 1 + 1) 31 #[.slice none 0 0] ∧ Blk wr (w.heap.size + 1 + 1 + 1) 46 #[.int .i64 0, .int .i64 0, .int .i64 0] ∧
      Blk wr b6 31 #[.slice (some ⟨gt, 0, none⟩) 8 8] ∧ Blk wr b7 46 #[.int .i64 z1, .int .i64 z2, .int .i64 z3] ∧ Hid (CbI D.length E Y ⟨z1, z2, z3⟩) ∧ Hid (cbRun D X N s 4 0 D X ⟨a1, a2, a3⟩ 0 = cbRun D X N s (4 - k) k E Y ⟨z1, z2, z3⟩ m)) (fun _ _ i _ => 4 - (intOf i).toNat)
  case atStart =>
    exact ⟨0, D, X, a1, a2, a3, 0, A5, c5, T5, _, _, g6, T6, _, _, Nat.zero_le _, rfl, rfl, rfl, Nat.le_refl _, HT5.out, HO5.out, HSZ8.out, Nat.le_refl _, HT6.out, HO6.out, HSZ8.out, Nat.le_refl _, HC.out, HB1.out, HB2.out, HB3.out, HB4.out, HK6.out, HK7.out, HI0, Lib.hid rfl⟩
  case round =>
    obtain ⟨k, E, Y, z1, z2, z3, m, Aq, cq, Tq, B1, E1, gt, T2, B2, E2, hk, rfl, rfl, rfl, hm, hTq, hO1, hB1, hE1, hT2, hO2, hB2, hE2, hch, hb1, hb2, hb3, hb4, hb6, hb7, HCI, HRE⟩ := hrel
    clear HB1 HB2 HB3 HB4 HC HK6 HK7 HO5 HT5 HO6 HT6 HCD HCT
    have HB1 := Lib.hid hb1
    have HB2 := Lib.hid hb2
    have HB3 := Lib.hid hb3
    have HB4 := Lib.hid hb4
    have HK6 := Lib.hid hb6
    have HK7 := Lib.hid hb7
    have HC := Lib.hid hch
    have HO1 := Lib.hid hO1
    have HO2 := Lib.hid hO2
    have HT1 := Lib.hid hTq
    have HT2 := Lib.hid hT2
    have HBE := Lib.hid (And.intro (And.intro hB1 hE1) (And.intro hB2 hE2))
    clear k1
    clear hb1 hb2 hb3 hb4 hb6 hb7 hch hO1 hO2 hTq hT2 hB1 hE1 hB2 hE2
    have k0 : (0 : Int) ≤ (k : Int) := Int.natCast_nonneg _
    by_cases hlt : k < 4
    case neg =>
      obtain rfl : k = 4 := by omega
      have HEND := Lib.hid (show cleanBlock D X ⟨a1, a2, a3⟩ (N : Int) s = cbEnd D X ⟨a1, a2, a3⟩ N (some (E, Y, ⟨z1, z2, z3⟩, m)) by rw [HCB.out, HRE.out]; rfl)
      have HEA := Lib.hid (iEraseAt_any _ Aq cq E (N : Int) wr (HT1.out ▸ HO1.out.reads) HCI.out.ok.1.small)
      go_wp2_with fail
      refine HEA.out.mono ?_
      clear HEA
      rintro e wz ⟨A6, c6, T6, rfl, hT6, hO6, hcz⟩
      obtain ⟨⟨E6, okk⟩, hap⟩ : ∃ q, eraseAt E (N : Int) = q := ⟨_, rfl⟩
      have HQ := Lib.hid (show cleanBlock D X ⟨a1, a2, a3⟩ (N : Int) s = if okk = true then ⟨E6, Y, ⟨z1, z2, z3⟩, (m : Int), true⟩ else ⟨D, X, ⟨a1, a2, a3⟩, 0, false⟩ by rw [HEND.out]; unfold cbEnd; simp only [hap])
      rw [hap] at hT6 ⊢
      have HT6 := Lib.hid hT6
      have HO6 := Lib.hid hO6
      have HC6 := Lib.hid hcz
      have HLR := Lib.hid HB4.out.lt
      clear hap hT6 hO6
      cases okk
      case false =>
        have HSAME := Lib.hid (show cleanBlock D X ⟨a1, a2, a3⟩ (N : Int) s = ⟨D, X, ⟨a1, a2, a3⟩, 0, false⟩ by rw [HQ.out]; rfl)
        replace HB1 := Lib.hid (HB1.out.chg hcz (fun x => x))
        replace HB2 := Lib.hid (HB2.out.chg hcz (fun x => x))
        replace HB3 := Lib.hid (HB3.out.chg hcz (fun x => x))
        replace HB4 := Lib.hid (HB4.out.chg hcz (fun x => x))
        replace HC := Lib.hid (HC.out.trans hcz)
        clear hcz
        have HFA := Lib.hid (show w.heap.size + 1 + 1 + 1 < wz.heap.size from HB4.out.lt)
        have HCD := Lib.hid (show ∀ wx, Chg (fun k => k = w.heap.size + 1 + 1 ∨ k = w.heap.size + 1 + 1 + 1) wz wx → Calls Try.prog 87 #[.slice (some ⟨bb, oo, none⟩) D.length c0] wx (fun e w' => ∃ A5 c5 T5, e = .returned (.slice A5 D.length c5) ∧ Hid (bksOf T5 = D) ∧ DevQ wx.heap.size w'.heap.size w' A5 c5 T5 ∧ Chg NoB wx w') from fun wx hq => (cloneDevice_any _ (some ⟨bb, oo, none⟩) c0 D wx (((HD0.out.new HC.out).chg hq (fun i hi hk => by have h5 := hi.2; rcases hk with h6 | h6 <;> omega))) HH.out.1).mono fun e w' ⟨A5, c5, T5, h1, h2, h3, h4⟩ => ⟨A5, c5, T5, h1, Lib.hid h2, h3, h4⟩)
        have HCT := Lib.hid (show ∀ wx, Chg (fun k => k = w.heap.size + 1 + 1 ∨ k = w.heap.size + 1 + 1 + 1) wz wx → Calls Try.prog 88 #[.agg #[.slice A 8 c]] wx (fun e w' => ∃ g6 T6, e = .returned (.agg #[.slice (some ⟨g6, 0, none⟩) 8 8]) ∧ Hid (listsOf T6 = X) ∧ TabO wx.heap.size w'.heap.size w' (some ⟨g6, 0, none⟩) 8 T6 ∧ Chg NoB wx w') from fun wx hq => by
          have h9 := cloneTable_any _ A c X wx (((HT0.out.new HC.out).chg hq (fun i hi hk => by have h5 := hi.2; rcases hk with h6 | h6 <;> omega))) HX.out
          rw [HL8.out] at h9
          exact h9.mono fun e w' ⟨g6, T6, h1, h2, h3, h4⟩ => ⟨g6, T6, h1, Lib.hid h2, h4, h3⟩)
        have hbt := HB1.out
        have t0 : wz.cell? ⟨w.heap.size, 0, none⟩ = some (.slice A 8 c) := (hbt.cell _).trans rfl
        have hbh := HB2.out
        have u0 : wz.cell? ⟨(w.heap.size + 1), 0, none⟩ = some (.int .i64 a1) := (hbh.cell _).trans rfl
        have u1 : wz.cell? ⟨(w.heap.size + 1), 1, none⟩ = some (.int .i64 a2) := (hbh.cell _).trans rfl
        have u2 : wz.cell? ⟨(w.heap.size + 1), 2, none⟩ = some (.int .i64 a3) := (hbh.cell _).trans rfl
        clear hbt hbh
        go_wp2_with fail
        refine wp_region_rg (WInv := fun _ m w5 => Chg (fun k => k = w.heap.size + 1 + 1 ∨ k = w.heap.size + 1 + 1 + 1) wz w5 ∧ StI (w.heap.size + 1 + 1) 31 #[.slice none 0 0] 6 3 m w5 ∧ StI (w.heap.size + 1 + 1 + 1) 46 #[.int .i64 0, .int .i64 0, .int .i64 0] 7 4 m w5) (R := Chg (fun k => k = w.heap.size + 1 + 1 ∨ k = w.heap.size + 1 + 1 + 1)) (Post := PL [fun v w => v = .slice (some ⟨bb, oo, none⟩) D.length c0, fun v w => ∃ A5 : Option Addr, ∃ c5 : Nat, ∃ T5 : List BkO, v = .slice A5 D.length c5 ∧ Hid (bksOf T5 = D) ∧ DevQ wz.heap.size w.heap.size w A5 c5 T5, fun v w => v = .agg #[.slice A 8 c], fun v w => ∃ g6 : Nat, ∃ T6 : List RowO, v = .agg #[.slice (some ⟨g6, 0, none⟩) 8 8] ∧ Hid (listsOf T6 = X) ∧ TabO wz.heap.size w.heap.size w (some ⟨g6, 0, none⟩) 8 T6, fun v w => v = .agg #[.int .i64 a1, .int .i64 a2, .int .i64 a3], fun v w => ∃ A5 : Option Addr, ∃ c5 : Nat, ∃ T5 : List BkO, v = .slice A5 D.length c5 ∧ Hid (bksOf T5 = D) ∧ DevQ wz.heap.size w.heap.size w A5 c5 T5, fun _ _ => True, fun _ _ => True, fun v w => v = .int .i64 0, fun v w => v = .bool false]) (by kernel_rfl) (by kernel_rfl) ?_ (pl_stab ⟨(fun _ _ _ h _ => h), (fun _ _ _ ⟨A5, c5, T5, hv, hT5, hO5⟩ hR => ⟨A5, c5, T5, hv, hT5, ((hO5.chg hR (fun i h1 h2 h3 => by have h4 := HFA.out; omega)).more (Nat.le_refl _) hR.size)⟩), (fun _ _ _ h _ => h), (fun _ _ _ ⟨g6, T6, hv, hT6, hO6⟩ hR => ⟨g6, T6, hv, hT6, ((hO6.chg hR (fun i h1 h2 h3 => by have h4 := HFA.out; omega)).more (Nat.le_refl _) hR.size)⟩), (fun _ _ _ h _ => h), (fun _ _ _ ⟨A5, c5, T5, hv, hT5, hO5⟩ hR => ⟨A5, c5, T5, hv, hT5, ((hO5.chg hR (fun i h1 h2 h3 => by have h4 := HFA.out; omega)).more (Nat.le_refl _) hR.size)⟩), (fun _ _ _ _ _ => trivial), (fun _ _ _ _ _ => trivial), (fun _ _ _ h _ => h), (fun _ _ _ h _ => h), trivial⟩) ⟨(Chg.refl _ _).drew, .inl ⟨rfl, HB3.out.chg (Chg.refl NoB _).drew (fun x => x)⟩, .inl ⟨rfl, HB4.out.chg (Chg.refl NoB _).drew (fun x => x)⟩⟩ ?_ ?_
        · exact fun _ _ _ _ h _ _ => h
        · refine ⟨?_, ?_, ?_, ?_, ?_, ?_, ?_, ?_, ?_, ?_, trivial⟩
          · rintro kc m a w5 hkc ⟨hch, hst0, hst1⟩ hm hn
            obtain ⟨h0, -⟩ := hn
            have e0 : a.tmps[0]?.getD undef = .slice (some ⟨bb, oo, none⟩) D.length c0 := h0
            exact rg_val (v := .slice (some ⟨bb, oo, none⟩) D.length c0) (by simp [execOp, go_sem, e0]) rfl ⟨hch, hst0.keep (by decide) hm (Chg.refl NoB _) (fun x => x), hst1.keep (by decide) hm (Chg.refl NoB _) (fun x => x)⟩ (Chg.refl _ _) rfl
          · rintro kc m a w5 hkc ⟨hch, hst0, hst1⟩ hm hn
            obtain ⟨⟨_, e0, m0, rfl⟩, -⟩ := hn
            refine rg_call (f := 87) (args := #[.slice (some ⟨bb, oo, none⟩) D.length c0]) (by simp [go_sem, e0]) rfl ?_
            refine (HCD.out _ hch).mono ?_
            rintro e' w6 ⟨A5, c5, T5, rfl, hT5, hO5, hc6⟩
            exact ⟨_, rfl, ⟨hch.trans' hc6 (fun _ x => x.elim), hst0.keep (by decide) hm hc6 (fun x => x), hst1.keep (by decide) hm hc6 (fun x => x)⟩, (hc6.mono (fun _ _ x => x.elim)), ⟨A5, c5, T5, rfl, hT5, (hO5.more hch.size (Nat.le_refl _))⟩⟩
          · rintro kc m a w5 hkc ⟨hch, hst0, hst1⟩ hm hn
            obtain ⟨h0, -⟩ := hn
            have e0 : a.tmps[6]?.getD undef = .pointer (some ⟨w.heap.size, 0, none⟩) := h0
            have y0 := hch.cell t0 (show ¬ (w.heap.size = w.heap.size + 1 + 1 ∨ w.heap.size = w.heap.size + 1 + 1 + 1) by omega)
            exact rg_val (v := .agg #[.slice A 8 c]) (by simp [execOp, go_sem, e0, y0]) rfl ⟨hch, hst0.keep (by decide) hm (Chg.refl NoB _) (fun x => x), hst1.keep (by decide) hm (Chg.refl NoB _) (fun x => x)⟩ (Chg.refl _ _) rfl
          · rintro kc m a w5 hkc ⟨hch, hst0, hst1⟩ hm hn
            obtain ⟨⟨_, e0, m0, rfl⟩, -⟩ := hn
            refine rg_call (f := 88) (args := #[.agg #[.slice A 8 c]]) (by simp [go_sem, e0]) rfl ?_
            refine (HCT.out _ hch).mono ?_
            rintro e' w6 ⟨g6, T6, rfl, hT6, hO6, hc6⟩
            exact ⟨_, rfl, ⟨hch.trans' hc6 (fun _ x => x.elim), hst0.keep (by decide) hm hc6 (fun x => x), hst1.keep (by decide) hm hc6 (fun x => x)⟩, (hc6.mono (fun _ _ x => x.elim)), ⟨g6, T6, rfl, hT6, (hO6.more hch.size (Nat.le_refl _))⟩⟩
          · rintro kc m a w5 hkc ⟨hch, hst0, hst1⟩ hm hn
            obtain ⟨h0, -⟩ := hn
            have e0 : a.tmps[7]?.getD undef = .pointer (some ⟨w.heap.size + 1, 0, none⟩) := h0
            have y0 := hch.cell u0 (show ¬ (w.heap.size + 1 = w.heap.size + 1 + 1 ∨ w.heap.size + 1 = w.heap.size + 1 + 1 + 1) by omega)
            have y1 := hch.cell u1 (show ¬ (w.heap.size + 1 = w.heap.size + 1 + 1 ∨ w.heap.size + 1 = w.heap.size + 1 + 1 + 1) by omega)
            have y2 := hch.cell u2 (show ¬ (w.heap.size + 1 = w.heap.size + 1 + 1 ∨ w.heap.size + 1 = w.heap.size + 1 + 1 + 1) by omega)
            exact rg_val (v := .agg #[.int .i64 a1, .int .i64 a2, .int .i64 a3]) (by simp [execOp, go_sem, e0, y0, y1, y2]) rfl ⟨hch, hst0.keep (by decide) hm (Chg.refl NoB _) (fun x => x), hst1.keep (by decide) hm (Chg.refl NoB _) (fun x => x)⟩ (Chg.refl _ _) rfl
          · rintro kc m a w5 hkc ⟨hch, hst0, hst1⟩ hm hn
            obtain ⟨⟨_, e0, m0, A5, c5, T5, rfl, hT5, hO5⟩, -⟩ := hn
            exact rg_val (v := .slice A5 D.length c5) (by simp [execOp, go_sem, e0]) rfl ⟨hch, hst0.keep (by decide) hm (Chg.refl NoB _) (fun x => x), hst1.keep (by decide) hm (Chg.refl NoB _) (fun x => x)⟩ (Chg.refl _ _) ⟨A5, c5, T5, rfl, hT5, hO5⟩
          · rintro kc m a w5 hkc ⟨hch, hst0, hst1⟩ hm hn
            obtain ⟨h0, ⟨_, e1, m1, g6, T6, rfl, hT6, hO6⟩, -⟩ := hn
            have e0 : a.tmps[11]?.getD undef = .pointer (some ⟨w.heap.size + 1 + 1, 0, none⟩) := h0
            have hb := hst0.ready hm
            have f0 := hb.frozen 0
            have x0 : w5.cell? ⟨w.heap.size + 1 + 1, 0, none⟩ = some (.slice none 0 0) := (hb.cell _).trans rfl
            have hs : Chg (· = w.heap.size + 1 + 1) w5 (w5.setCell ⟨w.heap.size + 1 + 1, 0, none⟩ (.slice (some ⟨g6, 0, none⟩) 8 8)) := ((Chg.refl (· = w.heap.size + 1 + 1) w5).setCell (p := ⟨w.heap.size + 1 + 1, 0, none⟩) (.inl rfl) _)
            have hb' : Blk (w5.setCell ⟨w.heap.size + 1 + 1, 0, none⟩ (.slice (some ⟨g6, 0, none⟩) 8 8)) (w.heap.size + 1 + 1) 31 #[.slice (some ⟨g6, 0, none⟩) 8 8] := (hb.set_ 0 _)
            exact rg_skip (w' := (w5.setCell ⟨w.heap.size + 1 + 1, 0, none⟩ (.slice (some ⟨g6, 0, none⟩) 8 8))) (by simp [execOp, go_sem, e0, e1, x0, f0]) rfl ⟨hch.trans (hs.mono (fun _ _ x => .inl x)), StI.store (by decide) m1 hb', hst1.keep (by decide) hm hs (fun he => absurd (show w.heap.size + 1 + 1 + 1 = w.heap.size + 1 + 1 from he) (by omega))⟩ (hs.mono (fun _ _ x => .inl x)) trivial
          · rintro kc m a w5 hkc ⟨hch, hst0, hst1⟩ hm hn
            obtain ⟨h0, ⟨_, e1, m1, rfl⟩, -⟩ := hn
            have e0 : a.tmps[12]?.getD undef = .pointer (some ⟨w.heap.size + 1 + 1 + 1, 0, none⟩) := h0
            have hb := hst1.ready hm
            have f0 := hb.frozen 0
            have x0 : w5.cell? ⟨w.heap.size + 1 + 1 + 1, 0, none⟩ = some (.int .i64 0) := (hb.cell _).trans rfl
            have f1 := hb.frozen 1
            have x1 : w5.cell? ⟨w.heap.size + 1 + 1 + 1, 1, none⟩ = some (.int .i64 0) := (hb.cell _).trans rfl
            have f2 := hb.frozen 2
            have x2 : w5.cell? ⟨w.heap.size + 1 + 1 + 1, 2, none⟩ = some (.int .i64 0) := (hb.cell _).trans rfl
            have hs : Chg (· = w.heap.size + 1 + 1 + 1) w5 (((w5.setCell ⟨w.heap.size + 1 + 1 + 1, 0, none⟩ (.int .i64 a1)).setCell ⟨w.heap.size + 1 + 1 + 1, 1, none⟩ (.int .i64 a2)).setCell ⟨w.heap.size + 1 + 1 + 1, 2, none⟩ (.int .i64 a3)) := ((((Chg.refl (· = w.heap.size + 1 + 1 + 1) w5).setCell (p := ⟨w.heap.size + 1 + 1 + 1, 0, none⟩) (.inl rfl) _).setCell (p := ⟨w.heap.size + 1 + 1 + 1, 1, none⟩) (.inl rfl) _).setCell (p := ⟨w.heap.size + 1 + 1 + 1, 2, none⟩) (.inl rfl) _)
            have hb' : Blk (((w5.setCell ⟨w.heap.size + 1 + 1 + 1, 0, none⟩ (.int .i64 a1)).setCell ⟨w.heap.size + 1 + 1 + 1, 1, none⟩ (.int .i64 a2)).setCell ⟨w.heap.size + 1 + 1 + 1, 2, none⟩ (.int .i64 a3)) (w.heap.size + 1 + 1 + 1) 46 #[.int .i64 a1, .int .i64 a2, .int .i64 a3] := (((hb.set_ 0 _).set_ 1 _).set_ 2 _)
            exact rg_skip (w' := (((w5.setCell ⟨w.heap.size + 1 + 1 + 1, 0, none⟩ (.int .i64 a1)).setCell ⟨w.heap.size + 1 + 1 + 1, 1, none⟩ (.int .i64 a2)).setCell ⟨w.heap.size + 1 + 1 + 1, 2, none⟩ (.int .i64 a3))) (by simp [execOp, go_sem, e0, e1, x0, x1, x2, f0, f1, f2]) rfl ⟨hch.trans (hs.mono (fun _ _ x => .inr x)), hst0.keep (by decide) hm hs (fun he => absurd (show w.heap.size + 1 + 1 = w.heap.size + 1 + 1 + 1 from he) (by omega)), StI.store (by decide) m1 hb'⟩ (hs.mono (fun _ _ x => .inr x)) trivial
          · rintro kc m a w5 hkc ⟨hch, hst0, hst1⟩ hm hn
            exact rg_val (v := .int .i64 0) (by simp [execOp, go_sem]) rfl ⟨hch, hst0.keep (by decide) hm (Chg.refl NoB _) (fun x => x), hst1.keep (by decide) hm (Chg.refl NoB _) (fun x => x)⟩ (Chg.refl _ _) rfl
          · rintro kc m a w5 hkc ⟨hch, hst0, hst1⟩ hm hn
            exact rg_val (v := .bool false) (by simp [execOp, go_sem]) rfl ⟨hch, hst0.keep (by decide) hm (Chg.refl NoB _) (fun x => x), hst1.keep (by decide) hm (Chg.refl NoB _) (fun x => x)⟩ (Chg.refl _ _) rfl
        rintro m w5 ⟨hch, hst0, hst1⟩
        simp only [AllVals]
        rintro q0 m0 p0 q1 m1 p1 q2 m2 p2 q3 m3 p3 q4 m4 p4 q5 m5 p5 q6 m6 p6 q7 m7 p7 q8 m8 p8 q9 m9 p9
        obtain ⟨A5, c5, T5, rfl, hT5, hO5⟩ := p5
        obtain ⟨g6, T6, rfl, hT6, hO6⟩ := p3
        obtain rfl := p4
        obtain rfl := p8
        obtain rfl := p9
        have hb1 : Blk w5 (w.heap.size + 1 + 1) 31 #[.slice (some ⟨g6, 0, none⟩) 8 8] := hst0.done m6 m3
        have hb2 : Blk w5 (w.heap.size + 1 + 1 + 1) 46 #[.int .i64 a1, .int .i64 a2, .int .i64 a3] := hst1.done m7 m4
        have r0 : w5.cell? ⟨w.heap.size + 1 + 1, 0, none⟩ = some (.slice (some ⟨g6, 0, none⟩) 8 8) := (hb1.cell _).trans rfl
        have r1 : w5.cell? ⟨w.heap.size + 1 + 1 + 1, 0, none⟩ = some (.int .i64 a1) := (hb2.cell _).trans rfl
        have r2 : w5.cell? ⟨w.heap.size + 1 + 1 + 1, 1, none⟩ = some (.int .i64 a2) := (hb2.cell _).trans rfl
        have r3 : w5.cell? ⟨w.heap.size + 1 + 1 + 1, 2, none⟩ = some (.int .i64 a3) := (hb2.cell _).trans rfl
        have HCR := Lib.hid hch
        have HO5 := Lib.hid hO5
        have HT5 := Lib.hid hT5.out
        have HO6 := Lib.hid hO6
        have HT6 := Lib.hid hT6.out
        clear hch hO5 hT5 hO6 hT6 hb1 hb2 t0 u0 u1 u2 hst0 hst1
        clear p0 p1 p2 p6 p7
        simp only [Act.put, List.setIfInBounds_toArray, List.set_cons_succ, List.set_cons_zero]
        go_wp2_with fail
        (try simp only [Exit.inBlock, Exit.then])
        refine bodyPost_ret (v := .tuple #[.slice A5 D.length c5, .agg #[.slice (some ⟨g6, 0, none⟩) 8 8], .agg #[.int .i64 a1, .int .i64 a2, .int .i64 a3], .int .i64 0, .bool false]) (by simp [results, Try.results25, go_sem, *]) rfl ?_
        have hcc := HC.out.trans' HCR.out (fun i hi => .inr (by rcases hi with h6 | h6 <;> omega))
        unfold CleanP
        rw [HSAME.out]
        exact ⟨A5, c5, T5, some ⟨g6, 0, none⟩, 8, T6, by simp only [HL8.out], HT5.out, HT6.out, HO5.out.more HC.out.size (Nat.le_refl _), HO6.out.more HC.out.size (Nat.le_refl _), hcc⟩
      case true =>
        obtain ⟨mz, rfl⟩ : ∃ mz, mz = m := ⟨m, rfl⟩
        have HYES := Lib.hid (show cleanBlock D X ⟨a1, a2, a3⟩ (N : Int) s = ⟨E6, Y, ⟨z1, z2, z3⟩, (mz : Int), true⟩ by rw [HQ.out]; rfl)
        replace HB1 := Lib.hid (HB1.out.chg hcz (fun x => x))
        replace HB2 := Lib.hid (HB2.out.chg hcz (fun x => x))
        replace HB3 := Lib.hid (HB3.out.chg hcz (fun x => x))
        replace HB4 := Lib.hid (HB4.out.chg hcz (fun x => x))
        replace HC := Lib.hid (HC.out.trans hcz)
        clear hcz
        have hb67 := HB67.out
        have hfa := HFA.out
        have hk6 := HK6.out.chg HC6.out (fun x => x)
        have hk7 := HK7.out.chg HC6.out (fun x => x)
        have t0 : wz.cell? ⟨b6, 0, none⟩ = some (.slice (some ⟨gt, 0, none⟩) 8 8) := (hk6.cell _).trans rfl
        have u0 : wz.cell? ⟨b7, 0, none⟩ = some (.int .i64 z1) := (hk7.cell _).trans rfl
        have u1 : wz.cell? ⟨b7, 1, none⟩ = some (.int .i64 z2) := (hk7.cell _).trans rfl
        have u2 : wz.cell? ⟨b7, 2, none⟩ = some (.int .i64 z3) := (hk7.cell _).trans rfl
        clear hk6 hk7
        go_wp2_with fail
        refine wp_region_rg (WInv := fun _ m w5 => Chg (fun k => k = w.heap.size + 1 + 1 ∨ k = w.heap.size + 1 + 1 + 1) wz w5 ∧ StI (w.heap.size + 1 + 1) 31 #[.slice none 0 0] 5 1 m w5 ∧ StI (w.heap.size + 1 + 1 + 1) 46 #[.int .i64 0, .int .i64 0, .int .i64 0] 6 2 m w5) (R := Chg (fun k => k = w.heap.size + 1 + 1 ∨ k = w.heap.size + 1 + 1 + 1)) (Post := PL [fun v w => v = .slice A6 E6.length c6, fun v w => v = .agg #[.slice (some ⟨gt, 0, none⟩) 8 8], fun v w => v = .agg #[.int .i64 z1, .int .i64 z2, .int .i64 z3], fun v w => v = .int .i64 (mz : Int), fun v w => v = .slice A6 E6.length c6, fun _ _ => True, fun _ _ => True, fun v w => v = .int .i64 (mz : Int), fun v w => v = .bool true]) (by kernel_rfl) (by kernel_rfl) ?_ (pl_stab ⟨(fun _ _ _ h _ => h), (fun _ _ _ h _ => h), (fun _ _ _ h _ => h), (fun _ _ _ h _ => h), (fun _ _ _ h _ => h), (fun _ _ _ _ _ => trivial), (fun _ _ _ _ _ => trivial), (fun _ _ _ h _ => h), (fun _ _ _ h _ => h), trivial⟩) ⟨(Chg.refl _ _).drew, .inl ⟨rfl, HB3.out.chg (Chg.refl NoB _).drew (fun x => x)⟩, .inl ⟨rfl, HB4.out.chg (Chg.refl NoB _).drew (fun x => x)⟩⟩ ?_ ?_
        · exact fun _ _ _ _ h _ _ => h
        · refine ⟨?_, ?_, ?_, ?_, ?_, ?_, ?_, ?_, ?_, trivial⟩
          · rintro kc m a w5 hkc ⟨hch, hst0, hst1⟩ hm hn
            obtain ⟨h0, -⟩ := hn
            have e0 : a.tmps[15]?.getD undef = .slice A6 E6.length c6 := h0
            exact rg_val (v := .slice A6 E6.length c6) (by simp [execOp, go_sem, e0]) rfl ⟨hch, hst0.keep (by decide) hm (Chg.refl NoB _) (fun x => x), hst1.keep (by decide) hm (Chg.refl NoB _) (fun x => x)⟩ (Chg.refl _ _) rfl
          · rintro kc m a w5 hkc ⟨hch, hst0, hst1⟩ hm hn
            obtain ⟨h0, -⟩ := hn
            have e0 : a.tmps[16]?.getD undef = .pointer (some ⟨b6, 0, none⟩) := h0
            have y0 := hch.cell t0 (show ¬ (b6 = w.heap.size + 1 + 1 ∨ b6 = w.heap.size + 1 + 1 + 1) by omega)
            exact rg_val (v := .agg #[.slice (some ⟨gt, 0, none⟩) 8 8]) (by simp [execOp, go_sem, e0, y0]) rfl ⟨hch, hst0.keep (by decide) hm (Chg.refl NoB _) (fun x => x), hst1.keep (by decide) hm (Chg.refl NoB _) (fun x => x)⟩ (Chg.refl _ _) rfl
          · rintro kc m a w5 hkc ⟨hch, hst0, hst1⟩ hm hn
            obtain ⟨h0, -⟩ := hn
            have e0 : a.tmps[17]?.getD undef = .pointer (some ⟨b7, 0, none⟩) := h0
            have y0 := hch.cell u0 (show ¬ (b7 = w.heap.size + 1 + 1 ∨ b7 = w.heap.size + 1 + 1 + 1) by omega)
            have y1 := hch.cell u1 (show ¬ (b7 = w.heap.size + 1 + 1 ∨ b7 = w.heap.size + 1 + 1 + 1) by omega)
            have y2 := hch.cell u2 (show ¬ (b7 = w.heap.size + 1 + 1 ∨ b7 = w.heap.size + 1 + 1 + 1) by omega)
            exact rg_val (v := .agg #[.int .i64 z1, .int .i64 z2, .int .i64 z3]) (by simp [execOp, go_sem, e0, y0, y1, y2]) rfl ⟨hch, hst0.keep (by decide) hm (Chg.refl NoB _) (fun x => x), hst1.keep (by decide) hm (Chg.refl NoB _) (fun x => x)⟩ (Chg.refl _ _) rfl
          · rintro kc m a w5 hkc ⟨hch, hst0, hst1⟩ hm hn
            obtain ⟨h0, -⟩ := hn
            have e0 : a.tmps[18]?.getD undef = .int .i64 (mz : Int) := h0
            exact rg_val (v := .int .i64 (mz : Int)) (by simp [execOp, go_sem, e0]) rfl ⟨hch, hst0.keep (by decide) hm (Chg.refl NoB _) (fun x => x), hst1.keep (by decide) hm (Chg.refl NoB _) (fun x => x)⟩ (Chg.refl _ _) rfl
          · rintro kc m a w5 hkc ⟨hch, hst0, hst1⟩ hm hn
            obtain ⟨⟨_, e0, m0, rfl⟩, -⟩ := hn
            exact rg_val (v := .slice A6 E6.length c6) (by simp [execOp, go_sem, e0]) rfl ⟨hch, hst0.keep (by decide) hm (Chg.refl NoB _) (fun x => x), hst1.keep (by decide) hm (Chg.refl NoB _) (fun x => x)⟩ (Chg.refl _ _) rfl
          · rintro kc m a w5 hkc ⟨hch, hst0, hst1⟩ hm hn
            obtain ⟨h0, ⟨_, e1, m1, rfl⟩, -⟩ := hn
            have e0 : a.tmps[11]?.getD undef = .pointer (some ⟨w.heap.size + 1 + 1, 0, none⟩) := h0
            have hb := hst0.ready hm
            have f0 := hb.frozen 0
            have x0 : w5.cell? ⟨w.heap.size + 1 + 1, 0, none⟩ = some (.slice none 0 0) := (hb.cell _).trans rfl
            have hs : Chg (· = w.heap.size + 1 + 1) w5 (w5.setCell ⟨w.heap.size + 1 + 1, 0, none⟩ (.slice (some ⟨gt, 0, none⟩) 8 8)) := ((Chg.refl (· = w.heap.size + 1 + 1) w5).setCell (p := ⟨w.heap.size + 1 + 1, 0, none⟩) (.inl rfl) _)
            have hb' : Blk (w5.setCell ⟨w.heap.size + 1 + 1, 0, none⟩ (.slice (some ⟨gt, 0, none⟩) 8 8)) (w.heap.size + 1 + 1) 31 #[.slice (some ⟨gt, 0, none⟩) 8 8] := (hb.set_ 0 _)
            exact rg_skip (w' := (w5.setCell ⟨w.heap.size + 1 + 1, 0, none⟩ (.slice (some ⟨gt, 0, none⟩) 8 8))) (by simp [execOp, go_sem, e0, e1, x0, f0]) rfl ⟨hch.trans (hs.mono (fun _ _ x => .inl x)), StI.store (by decide) m1 hb', hst1.keep (by decide) hm hs (fun he => absurd (show w.heap.size + 1 + 1 + 1 = w.heap.size + 1 + 1 from he) (by omega))⟩ (hs.mono (fun _ _ x => .inl x)) trivial
          · rintro kc m a w5 hkc ⟨hch, hst0, hst1⟩ hm hn
            obtain ⟨h0, ⟨_, e1, m1, rfl⟩, -⟩ := hn
            have e0 : a.tmps[12]?.getD undef = .pointer (some ⟨w.heap.size + 1 + 1 + 1, 0, none⟩) := h0
            have hb := hst1.ready hm
            have f0 := hb.frozen 0
            have x0 : w5.cell? ⟨w.heap.size + 1 + 1 + 1, 0, none⟩ = some (.int .i64 0) := (hb.cell _).trans rfl
            have f1 := hb.frozen 1
            have x1 : w5.cell? ⟨w.heap.size + 1 + 1 + 1, 1, none⟩ = some (.int .i64 0) := (hb.cell _).trans rfl
            have f2 := hb.frozen 2
            have x2 : w5.cell? ⟨w.heap.size + 1 + 1 + 1, 2, none⟩ = some (.int .i64 0) := (hb.cell _).trans rfl
            have hs : Chg (· = w.heap.size + 1 + 1 + 1) w5 (((w5.setCell ⟨w.heap.size + 1 + 1 + 1, 0, none⟩ (.int .i64 z1)).setCell ⟨w.heap.size + 1 + 1 + 1, 1, none⟩ (.int .i64 z2)).setCell ⟨w.heap.size + 1 + 1 + 1, 2, none⟩ (.int .i64 z3)) := ((((Chg.refl (· = w.heap.size + 1 + 1 + 1) w5).setCell (p := ⟨w.heap.size + 1 + 1 + 1, 0, none⟩) (.inl rfl) _).setCell (p := ⟨w.heap.size + 1 + 1 + 1, 1, none⟩) (.inl rfl) _).setCell (p := ⟨w.heap.size + 1 + 1 + 1, 2, none⟩) (.inl rfl) _)
            have hb' : Blk (((w5.setCell ⟨w.heap.size + 1 + 1 + 1, 0, none⟩ (.int .i64 z1)).setCell ⟨w.heap.size + 1 + 1 + 1, 1, none⟩ (.int .i64 z2)).setCell ⟨w.heap.size + 1 + 1 + 1, 2, none⟩ (.int .i64 z3)) (w.heap.size + 1 + 1 + 1) 46 #[.int .i64 z1, .int .i64 z2, .int .i64 z3] := (((hb.set_ 0 _).set_ 1 _).set_ 2 _)
            exact rg_skip (w' := (((w5.setCell ⟨w.heap.size + 1 + 1 + 1, 0, none⟩ (.int .i64 z1)).setCell ⟨w.heap.size + 1 + 1 + 1, 1, none⟩ (.int .i64 z2)).setCell ⟨w.heap.size + 1 + 1 + 1, 2, none⟩ (.int .i64 z3))) (by simp [execOp, go_sem, e0, e1, x0, x1, x2, f0, f1, f2]) rfl ⟨hch.trans (hs.mono (fun _ _ x => .inr x)), hst0.keep (by decide) hm hs (fun he => absurd (show w.heap.size + 1 + 1 = w.heap.size + 1 + 1 + 1 from he) (by omega)), StI.store (by decide) m1 hb'⟩ (hs.mono (fun _ _ x => .inr x)) trivial
          · rintro kc m a w5 hkc ⟨hch, hst0, hst1⟩ hm hn
            obtain ⟨⟨_, e0, m0, rfl⟩, -⟩ := hn
            exact rg_val (v := .int .i64 (mz : Int)) (by simp [execOp, go_sem, e0]) rfl ⟨hch, hst0.keep (by decide) hm (Chg.refl NoB _) (fun x => x), hst1.keep (by decide) hm (Chg.refl NoB _) (fun x => x)⟩ (Chg.refl _ _) rfl
          · rintro kc m a w5 hkc ⟨hch, hst0, hst1⟩ hm hn
            exact rg_val (v := .bool true) (by simp [execOp, go_sem]) rfl ⟨hch, hst0.keep (by decide) hm (Chg.refl NoB _) (fun x => x), hst1.keep (by decide) hm (Chg.refl NoB _) (fun x => x)⟩ (Chg.refl _ _) rfl
        rintro m w5 ⟨hch, hst0, hst1⟩
        simp only [AllVals]
        rintro q0 m0 p0 q1 m1 p1 q2 m2 p2 q3 m3 p3 q4 m4 p4 q5 m5 p5 q6 m6 p6 q7 m7 p7 q8 m8 p8
        obtain rfl := p1
        obtain rfl := p2
        obtain rfl := p4
        obtain rfl := p7
        obtain rfl := p8
        have hb1 : Blk w5 (w.heap.size + 1 + 1) 31 #[.slice (some ⟨gt, 0, none⟩) 8 8] := hst0.done m5 m1
        have hb2 : Blk w5 (w.heap.size + 1 + 1 + 1) 46 #[.int .i64 z1, .int .i64 z2, .int .i64 z3] := hst1.done m6 m2
        have r0 : w5.cell? ⟨w.heap.size + 1 + 1, 0, none⟩ = some (.slice (some ⟨gt, 0, none⟩) 8 8) := (hb1.cell _).trans rfl
        have r1 : w5.cell? ⟨w.heap.size + 1 + 1 + 1, 0, none⟩ = some (.int .i64 z1) := (hb2.cell _).trans rfl
        have r2 : w5.cell? ⟨w.heap.size + 1 + 1 + 1, 1, none⟩ = some (.int .i64 z2) := (hb2.cell _).trans rfl
        have r3 : w5.cell? ⟨w.heap.size + 1 + 1 + 1, 2, none⟩ = some (.int .i64 z3) := (hb2.cell _).trans rfl
        have HCR := Lib.hid hch
        clear hch hb1 hb2 t0 u0 u1 u2 hst0 hst1
        clear p0 p3 p5 p6
        simp only [Act.put, List.setIfInBounds_toArray, List.set_cons_succ, List.set_cons_zero]
        go_wp2_with fail
        (try simp only [Exit.inBlock, Exit.then])
        refine bodyPost_ret (v := .tuple #[.slice A6 E6.length c6, .agg #[.slice (some ⟨gt, 0, none⟩) 8 8], .agg #[.int .i64 z1, .int .i64 z2, .int .i64 z3],   .int .i64 (mz : Int), .bool true]) (by simp [results, Try.results25, go_sem, *]) rfl ?_
        have hcc := HC.out.trans' HCR.out (fun i hi => .inr (by rcases hi with h6 | h6 <;> omega))
        have hrb : RB2 0 31 46 wz w5 := HCR.out.mono (fun q _ hq => ⟨Nat.zero_le _, by
          rcases hq with rfl | rfl
          · exact .inl ⟨_, HB3.out⟩
          · exact .inr ⟨_, HB4.out⟩⟩)
        have hs5 := HCR.out.size
        have hs6 := HC6.out.size
        unfold CleanP
        rw [HYES.out]
        exact ⟨A6, c6, T6, some ⟨gt, 0, none⟩, 8, T2, by simp only [HCI.out.tab.1], HT6.out, HT2.out, (HO6.out.box2 hrb).more (by have := HLR.out; omega) hs5, ((HO2.out.new HC6.out).box2 hrb).more HBE.out.2.1 (by have := HBE.out.2.2; omega), hcc⟩
    have k2 : (k : Int) < 4 := by omega
    obtain ⟨r, hr⟩ : ∃ r, 4 - k = r + 1 := ⟨4 - k - 1, by omega⟩
    rw [hr] at HRE
    have HR4 := Lib.hid (show 4 - (k + 1) = r by omega)
    have hkp : k < (D[N]'HNL.out).pages.length := by rw [HP4.out]; exact hlt
    obtain ⟨pb, po, rfl, -, -, p0, p1, p2, p3, p4⟩ := pgs_at (HRP.out.new HC.out) hkp
    have hpe := pgAt_blk HNL.out hlt hkp
    rw [← hpe] at p0 p1 p2 p3 p4
    obtain ⟨⟨fu, fi, pl, va, st⟩, hPG⟩ : ∃ PG, pgAt D (4 * N + k) = PG := ⟨_, rfl⟩
    rw [hPG] at p0 p1 p2 p3 p4
    have HPG := Lib.hid hPG
    clear hpe hPG hr hkp
    have hm4 : (m : Int) ≤ (k : Int) := by omega
    have hm0 : (0 : Int) ≤ (m : Int) := Int.natCast_nonneg _
    cases fu
    case false =>
      have HNS := Lib.hid (show ¬ hitAt D X N k from fun hh => by have h1 := hh.1; rw [HPG.out] at h1; cases h1)
      have HS := Lib.hid (HRE.out.trans (cbRun_skip HNS.out))
      have HCA := Lib.hid ((Chg.refl NoB wr).alloc (.cells #[.bool false, .int .i64 fi, .int .i64 pl, .int .i64 va, .int .i64 st] 80))
      have y0 := (Blk.new wr 80 #[.bool false, .int .i64 fi, .int .i64 pl, .int .i64 va, .int .i64 st]).cell 0
      replace y0 := y0.trans (show _ = some (Value.bool false) from rfl)
      go_wp2_with fail
      go_roundw
      case rel =>
        exact ⟨k + 1, E, Y, z1, z2, z3, m, Aq, cq, Tq, B1, E1, gt, T2, B2, E2, by omega, by go_num, rfl, rfl, by omega, HT1.out, HO1.out.new HCA.out, HBE.out.1.1, Nat.le_trans HBE.out.1.2 HCA.out.size, HT2.out, HO2.out.new HCA.out, HBE.out.2.1, Nat.le_trans HBE.out.2.2 HCA.out.size, HC.out.trans HCA.out,
          HB1.out.chg HCA.out (fun x => x), HB2.out.chg HCA.out (fun x => x), HB3.out.chg HCA.out (fun x => x), HB4.out.chg HCA.out (fun x => x), HK6.out.chg HCA.out (fun x => x), HK7.out.chg HCA.out (fun x => x), HCI, Lib.hid (by rw [HR4.out]; exact HS.out)⟩
      case measure => simp [intOf]; omega
    have hpo := (pgOk_yes (p := pgAt D (4 * N + k)) (by rw [HPG.out])).1 (pgAt_ok HH.out.1 (by have := HNL.out; omega))
    rw [HPG.out] at hpo
    simp only at hpo
    obtain ⟨f, rfl⟩ := Int.eq_ofNat_of_zero_le hpo.1.1
    obtain ⟨p, rfl⟩ := Int.eq_ofNat_of_zero_le hpo.2.1.1
    have HFP := Lib.hid (show f < 8 ∧ p < 6 by omega)
    clear hpo
    have HCA := Lib.hid ((Chg.refl NoB wr).alloc (.cells #[.bool true, .int .i64 (f : Int), .int .i64 (p : Int), .int .i64 va, .int .i64 st] 80))
    have HPB := Lib.hid (Blk.new wr 80 #[.bool true, .int .i64 (f : Int), .int .i64 (p : Int), .int .i64 va, .int .i64 st])
    have hpb := HPB.out
    have y0 : (wr.alloc (.cells #[.bool true, .int .i64 (f : Int), .int .i64 (p : Int), .int .i64 va, .int .i64 st] 80)).cell? ⟨wr.heap.size, 0, none⟩ = some (.bool true) := (hpb.cell _).trans rfl
    have y1 : (wr.alloc (.cells #[.bool true, .int .i64 (f : Int), .int .i64 (p : Int), .int .i64 va, .int .i64 st] 80)).cell? ⟨wr.heap.size, 1, none⟩ = some (.int .i64 (f : Int)) := (hpb.cell _).trans rfl
    have y2 : (wr.alloc (.cells #[.bool true, .int .i64 (f : Int), .int .i64 (p : Int), .int .i64 va, .int .i64 st] 80)).cell? ⟨wr.heap.size, 2, none⟩ = some (.int .i64 (p : Int)) := (hpb.cell _).trans rfl
    have y3 : (wr.alloc (.cells #[.bool true, .int .i64 (f : Int), .int .i64 (p : Int), .int .i64 va, .int .i64 st] 80)).cell? ⟨wr.heap.size, 3, none⟩ = some (.int .i64 va) := (hpb.cell _).trans rfl
    have y4 : (wr.alloc (.cells #[.bool true, .int .i64 (f : Int), .int .i64 (p : Int), .int .i64 va, .int .i64 st] 80)).cell? ⟨wr.heap.size, 4, none⟩ = some (.int .i64 st) := (hpb.cell _).trans rfl
    have t0 : (wr.alloc (.cells #[.bool true, .int .i64 (f : Int), .int .i64 (p : Int), .int .i64 va, .int .i64 st] 80)).cell? ⟨w.heap.size, 0, none⟩ = some (.slice A 8 c) := ((HB1.out.chg HCA.out (fun x => x)).cell _).trans rfl
    clear hpb
    go_wp2_with fail
    refine (HTG.out _ (HC.out.trans HCA.out) f p HFP.out.1 HFP.out.2).mono ?_
    rintro e w9 ⟨rfl, hc9⟩
    have HC9 := Lib.hid (HCA.out.trans hc9)
    replace HPB := Lib.hid (HPB.out.chg hc9 (fun x => x))
    clear hc9 y0 y1 y2 y3 y4 t0 p0 p1 p2 p3 p4
    obtain ⟨x, hx⟩ : ∃ x, tget X f p = x := ⟨_, rfl⟩
    rw [hx]
    have HXV := Lib.hid hx
    clear hx
    have hwk : IntKind.i64.wrap ((N : Int) * 4 + (k : Int)) = (N : Int) * 4 + (k : Int) := IntWalk.i64_in _ ⟨by omega, by omega⟩
    by_cases hhit : x = (N : Int) * 4 + (k : Int)
    case neg =>
      have hbn : (x != (N : Int) * 4 + (k : Int)) = true := bne_iff_ne.2 hhit
      have HNS := Lib.hid (show ¬ hitAt D X N k from fun hh => by
        have h1 := hh.2
        rw [HPG.out] at h1
        simp only [Int.toNat_natCast] at h1
        rw [HXV.out] at h1
        omega)
      have HS := Lib.hid (HRE.out.trans (cbRun_skip HNS.out))
      clear hhit
      go_wp2_with fail
      go_roundw
      case rel =>
        exact ⟨k + 1, E, Y, z1, z2, z3, m, Aq, cq, Tq, B1, E1, gt, T2, B2, E2, by omega, by go_num, rfl, rfl, by omega, HT1.out, HO1.out.new HC9.out, HBE.out.1.1, Nat.le_trans HBE.out.1.2 HC9.out.size, HT2.out, HO2.out.new HC9.out, HBE.out.2.1, Nat.le_trans HBE.out.2.2 HC9.out.size, HC.out.trans HC9.out,
          HB1.out.chg HC9.out (fun x => x), HB2.out.chg HC9.out (fun x => x), HB3.out.chg HC9.out (fun x => x), HB4.out.chg HC9.out (fun x => x), HK6.out.chg HC9.out (fun x => x), HK7.out.chg HC9.out (fun x => x), HCI, Lib.hid (by rw [HR4.out]; exact HS.out)⟩
      case measure => simp [intOf]; omega
    have hbn : (x != (N : Int) * 4 + (k : Int)) = false := bne_eq_false_iff_eq.2 hhit
    have HHIT := Lib.hid (show hitAt D X N k from ⟨by rw [HPG.out], by
      rw [HPG.out]
      simp only [Int.toNat_natCast]
      rw [HXV.out]
      omega⟩)
    clear hhit
    have hwsm : IntKind.i64.wrap (s + (m : Int)) = s + (m : Int) := IntWalk.i64_in _ ⟨by omega, by omega⟩
    have hpb := HPB.out
    have y0 : w9.cell? ⟨wr.heap.size, 0, none⟩ = some (.bool true) := (hpb.cell _).trans rfl
    have yf0 := hpb.frozen 0
    have y1 : w9.cell? ⟨wr.heap.size, 1, none⟩ = some (.int .i64 (f : Int)) := (hpb.cell _).trans rfl
    have yf1 := hpb.frozen 1
    have y2 : w9.cell? ⟨wr.heap.size, 2, none⟩ = some (.int .i64 (p : Int)) := (hpb.cell _).trans rfl
    have yf2 := hpb.frozen 2
    have y3 : w9.cell? ⟨wr.heap.size, 3, none⟩ = some (.int .i64 va) := (hpb.cell _).trans rfl
    have yf3 := hpb.frozen 3
    have y4 : w9.cell? ⟨wr.heap.size, 4, none⟩ = some (.int .i64 st) := (hpb.cell _).trans rfl
    have yf4 := hpb.frozen 4
    have hcs : Chg (· = wr.heap.size) w9 (w9.setCell ⟨wr.heap.size, 4, none⟩ (.int .i64 (s + (m : Int)))) := (Chg.refl (· = wr.heap.size) w9).setCell (p := ⟨wr.heap.size, 4, none⟩) (.inl rfl) _
    have HCP := Lib.hid (HC9.out.own hcs (Nat.le_refl _))
    have HPB2 := Lib.hid (show Blk (w9.setCell ⟨wr.heap.size, 4, none⟩ (.int .i64 (s + (m : Int)))) wr.heap.size 80 #[.bool true, .int .i64 (f : Int), .int .i64 (p : Int), .int .i64 va, .int .i64 (s + (m : Int))] from hpb.set_ 4 _)
    clear hpb hcs HPB
    by_cases hbig : 1000000 < s + (m : Int)
    case pos =>
      have HSAME := Lib.hid (show cleanBlock D X ⟨a1, a2, a3⟩ (N : Int) s = ⟨D, X, ⟨a1, a2, a3⟩, 0, false⟩ by rw [HCB.out, HRE.out.trans (cbRun_big HHIT.out hbig)]; rfl)
      go_wp2_with fail
      obtain ⟨w10, hw10⟩ : ∃ w10, w9.setCell ⟨wr.heap.size, 4, none⟩ (.int .i64 (s + (m : Int))) = w10 := ⟨_, rfl⟩
      rw [hw10]
      rw [hw10] at HCP
      have hcp := HCP.out
      clear y0 y1 y2 y3 y4 yf0 yf1 yf2 yf3 yf4 hw10
      replace HB1 := Lib.hid (HB1.out.chg hcp (fun x => x))
      replace HB2 := Lib.hid (HB2.out.chg hcp (fun x => x))
      replace HB3 := Lib.hid (HB3.out.chg hcp (fun x => x))
      replace HB4 := Lib.hid (HB4.out.chg hcp (fun x => x))
      replace HC := Lib.hid (HC.out.trans hcp)
      clear hcp
      have HFA := Lib.hid (show w.heap.size + 1 + 1 + 1 < w10.heap.size from HB4.out.lt)
      have HCD := Lib.hid (show ∀ wx, Chg (fun k => k = w.heap.size + 1 + 1 ∨ k = w.heap.size + 1 + 1 + 1) w10 wx → Calls Try.prog 87 #[.slice (some ⟨bb, oo, none⟩) D.length c0] wx (fun e w' => ∃ A5 c5 T5, e = .returned (.slice A5 D.length c5) ∧ Hid (bksOf T5 = D) ∧ DevQ wx.heap.size w'.heap.size w' A5 c5 T5 ∧ Chg NoB wx w') from fun wx hq => (cloneDevice_any _ (some ⟨bb, oo, none⟩) c0 D wx (((HD0.out.new HC.out).chg hq (fun i hi hk => by have h5 := hi.2; rcases hk with h6 | h6 <;> omega))) HH.out.1).mono fun e w' ⟨A5, c5, T5, h1, h2, h3, h4⟩ => ⟨A5, c5, T5, h1, Lib.hid h2, h3, h4⟩)
      have HCT := Lib.hid (show ∀ wx, Chg (fun k => k = w.heap.size + 1 + 1 ∨ k = w.heap.size + 1 + 1 + 1) w10 wx → Calls Try.prog 88 #[.agg #[.slice A 8 c]] wx (fun e w' => ∃ g6 T6, e = .returned (.agg #[.slice (some ⟨g6, 0, none⟩) 8 8]) ∧ Hid (listsOf T6 = X) ∧ TabO wx.heap.size w'.heap.size w' (some ⟨g6, 0, none⟩) 8 T6 ∧ Chg NoB wx w') from fun wx hq => by
        have h9 := cloneTable_any _ A c X wx (((HT0.out.new HC.out).chg hq (fun i hi hk => by have h5 := hi.2; rcases hk with h6 | h6 <;> omega))) HX.out
        rw [HL8.out] at h9
        exact h9.mono fun e w' ⟨g6, T6, h1, h2, h3, h4⟩ => ⟨g6, T6, h1, Lib.hid h2, h4, h3⟩)
      have hbt := HB1.out
      have t0 : w10.cell? ⟨w.heap.size, 0, none⟩ = some (.slice A 8 c) := (hbt.cell _).trans rfl
      have hbh := HB2.out
      have u0 : w10.cell? ⟨(w.heap.size + 1), 0, none⟩ = some (.int .i64 a1) := (hbh.cell _).trans rfl
      have u1 : w10.cell? ⟨(w.heap.size + 1), 1, none⟩ = some (.int .i64 a2) := (hbh.cell _).trans rfl
      have u2 : w10.cell? ⟨(w.heap.size + 1), 2, none⟩ = some (.int .i64 a3) := (hbh.cell _).trans rfl
      clear hbt hbh
      refine wp_region_rg (WInv := fun _ m w5 => Chg (fun k => k = w.heap.size + 1 + 1 ∨ k = w.heap.size + 1 + 1 + 1) w10 w5 ∧ StI (w.heap.size + 1 + 1) 31 #[.slice none 0 0] 6 3 m w5 ∧ StI (w.heap.size + 1 + 1 + 1) 46 #[.int .i64 0, .int .i64 0, .int .i64 0] 7 4 m w5) (R := Chg (fun k => k = w.heap.size + 1 + 1 ∨ k = w.heap.size + 1 + 1 + 1)) (Post := PL [fun v w => v = .slice (some ⟨bb, oo, none⟩) D.length c0, fun v w => ∃ A5 : Option Addr, ∃ c5 : Nat, ∃ T5 : List BkO, v = .slice A5 D.length c5 ∧ Hid (bksOf T5 = D) ∧ DevQ w10.heap.size w.heap.size w A5 c5 T5, fun v w => v = .agg #[.slice A 8 c], fun v w => ∃ g6 : Nat, ∃ T6 : List RowO, v = .agg #[.slice (some ⟨g6, 0, none⟩) 8 8] ∧ Hid (listsOf T6 = X) ∧ TabO w10.heap.size w.heap.size w (some ⟨g6, 0, none⟩) 8 T6, fun v w => v = .agg #[.int .i64 a1, .int .i64 a2, .int .i64 a3], fun v w => ∃ A5 : Option Addr, ∃ c5 : Nat, ∃ T5 : List BkO, v = .slice A5 D.length c5 ∧ Hid (bksOf T5 = D) ∧ DevQ w10.heap.size w.heap.size w A5 c5 T5, fun _ _ => True, fun _ _ => True, fun v w => v = .int .i64 0, fun v w => v = .bool false]) (by kernel_rfl) (by kernel_rfl) ?_ (pl_stab ⟨(fun _ _ _ h _ => h), (fun _ _ _ ⟨A5, c5, T5, hv, hT5, hO5⟩ hR => ⟨A5, c5, T5, hv, hT5, ((hO5.chg hR (fun i h1 h2 h3 => by have h4 := HFA.out; omega)).more (Nat.le_refl _) hR.size)⟩), (fun _ _ _ h _ => h), (fun _ _ _ ⟨g6, T6, hv, hT6, hO6⟩ hR => ⟨g6, T6, hv, hT6, ((hO6.chg hR (fun i h1 h2 h3 => by have h4 := HFA.out; omega)).more (Nat.le_refl _) hR.size)⟩), (fun _ _ _ h _ => h), (fun _ _ _ ⟨A5, c5, T5, hv, hT5, hO5⟩ hR => ⟨A5, c5, T5, hv, hT5, ((hO5.chg hR (fun i h1 h2 h3 => by have h4 := HFA.out; omega)).more (Nat.le_refl _) hR.size)⟩), (fun _ _ _ _ _ => trivial), (fun _ _ _ _ _ => trivial), (fun _ _ _ h _ => h), (fun _ _ _ h _ => h), trivial⟩) ⟨(Chg.refl _ _).drew, .inl ⟨rfl, HB3.out.chg (Chg.refl NoB _).drew (fun x => x)⟩, .inl ⟨rfl, HB4.out.chg (Chg.refl NoB _).drew (fun x => x)⟩⟩ ?_ ?_
      · exact fun _ _ _ _ h _ _ => h
      · refine ⟨?_, ?_, ?_, ?_, ?_, ?_, ?_, ?_, ?_, ?_, trivial⟩
        · rintro kc m a w5 hkc ⟨hch, hst0, hst1⟩ hm hn
          obtain ⟨h0, -⟩ := hn
          have e0 : a.tmps[0]?.getD undef = .slice (some ⟨bb, oo, none⟩) D.length c0 := h0
          exact rg_val (v := .slice (some ⟨bb, oo, none⟩) D.length c0) (by simp [execOp, go_sem, e0]) rfl ⟨hch, hst0.keep (by decide) hm (Chg.refl NoB _) (fun x => x), hst1.keep (by decide) hm (Chg.refl NoB _) (fun x => x)⟩ (Chg.refl _ _) rfl
        · rintro kc m a w5 hkc ⟨hch, hst0, hst1⟩ hm hn
          obtain ⟨⟨_, e0, m0, rfl⟩, -⟩ := hn
          refine rg_call (f := 87) (args := #[.slice (some ⟨bb, oo, none⟩) D.length c0]) (by simp [go_sem, e0]) rfl ?_
          refine (HCD.out _ hch).mono ?_
          rintro e' w6 ⟨A5, c5, T5, rfl, hT5, hO5, hc6⟩
          exact ⟨_, rfl, ⟨hch.trans' hc6 (fun _ x => x.elim), hst0.keep (by decide) hm hc6 (fun x => x), hst1.keep (by decide) hm hc6 (fun x => x)⟩, (hc6.mono (fun _ _ x => x.elim)), ⟨A5, c5, T5, rfl, hT5, (hO5.more hch.size (Nat.le_refl _))⟩⟩
        · rintro kc m a w5 hkc ⟨hch, hst0, hst1⟩ hm hn
          obtain ⟨h0, -⟩ := hn
          have e0 : a.tmps[6]?.getD undef = .pointer (some ⟨w.heap.size, 0, none⟩) := h0
          have y0 := hch.cell t0 (show ¬ (w.heap.size = w.heap.size + 1 + 1 ∨ w.heap.size = w.heap.size + 1 + 1 + 1) by omega)
          exact rg_val (v := .agg #[.slice A 8 c]) (by simp [execOp, go_sem, e0, y0]) rfl ⟨hch, hst0.keep (by decide) hm (Chg.refl NoB _) (fun x => x), hst1.keep (by decide) hm (Chg.refl NoB _) (fun x => x)⟩ (Chg.refl _ _) rfl
        · rintro kc m a w5 hkc ⟨hch, hst0, hst1⟩ hm hn
          obtain ⟨⟨_, e0, m0, rfl⟩, -⟩ := hn
          refine rg_call (f := 88) (args := #[.agg #[.slice A 8 c]]) (by simp [go_sem, e0]) rfl ?_
          refine (HCT.out _ hch).mono ?_
          rintro e' w6 ⟨g6, T6, rfl, hT6, hO6, hc6⟩
          exact ⟨_, rfl, ⟨hch.trans' hc6 (fun _ x => x.elim), hst0.keep (by decide) hm hc6 (fun x => x), hst1.keep (by decide) hm hc6 (fun x => x)⟩, (hc6.mono (fun _ _ x => x.elim)), ⟨g6, T6, rfl, hT6, (hO6.more hch.size (Nat.le_refl _))⟩⟩
        · rintro kc m a w5 hkc ⟨hch, hst0, hst1⟩ hm hn
          obtain ⟨h0, -⟩ := hn
          have e0 : a.tmps[7]?.getD undef = .pointer (some ⟨w.heap.size + 1, 0, none⟩) := h0
          have y0 := hch.cell u0 (show ¬ (w.heap.size + 1 = w.heap.size + 1 + 1 ∨ w.heap.size + 1 = w.heap.size + 1 + 1 + 1) by omega)
          have y1 := hch.cell u1 (show ¬ (w.heap.size + 1 = w.heap.size + 1 + 1 ∨ w.heap.size + 1 = w.heap.size + 1 + 1 + 1) by omega)
          have y2 := hch.cell u2 (show ¬ (w.heap.size + 1 = w.heap.size + 1 + 1 ∨ w.heap.size + 1 = w.heap.size + 1 + 1 + 1) by omega)
          exact rg_val (v := .agg #[.int .i64 a1, .int .i64 a2, .int .i64 a3]) (by simp [execOp, go_sem, e0, y0, y1, y2]) rfl ⟨hch, hst0.keep (by decide) hm (Chg.refl NoB _) (fun x => x), hst1.keep (by decide) hm (Chg.refl NoB _) (fun x => x)⟩ (Chg.refl _ _) rfl
        · rintro kc m a w5 hkc ⟨hch, hst0, hst1⟩ hm hn
          obtain ⟨⟨_, e0, m0, A5, c5, T5, rfl, hT5, hO5⟩, -⟩ := hn
          exact rg_val (v := .slice A5 D.length c5) (by simp [execOp, go_sem, e0]) rfl ⟨hch, hst0.keep (by decide) hm (Chg.refl NoB _) (fun x => x), hst1.keep (by decide) hm (Chg.refl NoB _) (fun x => x)⟩ (Chg.refl _ _) ⟨A5, c5, T5, rfl, hT5, hO5⟩
        · rintro kc m a w5 hkc ⟨hch, hst0, hst1⟩ hm hn
          obtain ⟨h0, ⟨_, e1, m1, g6, T6, rfl, hT6, hO6⟩, -⟩ := hn
          have e0 : a.tmps[11]?.getD undef = .pointer (some ⟨w.heap.size + 1 + 1, 0, none⟩) := h0
          have hb := hst0.ready hm
          have f0 := hb.frozen 0
          have x0 : w5.cell? ⟨w.heap.size + 1 + 1, 0, none⟩ = some (.slice none 0 0) := (hb.cell _).trans rfl
          have hs : Chg (· = w.heap.size + 1 + 1) w5 (w5.setCell ⟨w.heap.size + 1 + 1, 0, none⟩ (.slice (some ⟨g6, 0, none⟩) 8 8)) := ((Chg.refl (· = w.heap.size + 1 + 1) w5).setCell (p := ⟨w.heap.size + 1 + 1, 0, none⟩) (.inl rfl) _)
          have hb' : Blk (w5.setCell ⟨w.heap.size + 1 + 1, 0, none⟩ (.slice (some ⟨g6, 0, none⟩) 8 8)) (w.heap.size + 1 + 1) 31 #[.slice (some ⟨g6, 0, none⟩) 8 8] := (hb.set_ 0 _)
          exact rg_skip (w' := (w5.setCell ⟨w.heap.size + 1 + 1, 0, none⟩ (.slice (some ⟨g6, 0, none⟩) 8 8))) (by simp [execOp, go_sem, e0, e1, x0, f0]) rfl ⟨hch.trans (hs.mono (fun _ _ x => .inl x)), StI.store (by decide) m1 hb', hst1.keep (by decide) hm hs (fun he => absurd (show w.heap.size + 1 + 1 + 1 = w.heap.size + 1 + 1 from he) (by omega))⟩ (hs.mono (fun _ _ x => .inl x)) trivial
        · rintro kc m a w5 hkc ⟨hch, hst0, hst1⟩ hm hn
          obtain ⟨h0, ⟨_, e1, m1, rfl⟩, -⟩ := hn
          have e0 : a.tmps[12]?.getD undef = .pointer (some ⟨w.heap.size + 1 + 1 + 1, 0, none⟩) := h0
          have hb := hst1.ready hm
          have f0 := hb.frozen 0
          have x0 : w5.cell? ⟨w.heap.size + 1 + 1 + 1, 0, none⟩ = some (.int .i64 0) := (hb.cell _).trans rfl
          have f1 := hb.frozen 1
          have x1 : w5.cell? ⟨w.heap.size + 1 + 1 + 1, 1, none⟩ = some (.int .i64 0) := (hb.cell _).trans rfl
          have f2 := hb.frozen 2
          have x2 : w5.cell? ⟨w.heap.size + 1 + 1 + 1, 2, none⟩ = some (.int .i64 0) := (hb.cell _).trans rfl
          have hs : Chg (· = w.heap.size + 1 + 1 + 1) w5 (((w5.setCell ⟨w.heap.size + 1 + 1 + 1, 0, none⟩ (.int .i64 a1)).setCell ⟨w.heap.size + 1 + 1 + 1, 1, none⟩ (.int .i64 a2)).setCell ⟨w.heap.size + 1 + 1 + 1, 2, none⟩ (.int .i64 a3)) := ((((Chg.refl (· = w.heap.size + 1 + 1 + 1) w5).setCell (p := ⟨w.heap.size + 1 + 1 + 1, 0, none⟩) (.inl rfl) _).setCell (p := ⟨w.heap.size + 1 + 1 + 1, 1, none⟩) (.inl rfl) _).setCell (p := ⟨w.heap.size + 1 + 1 + 1, 2, none⟩) (.inl rfl) _)
          have hb' : Blk (((w5.setCell ⟨w.heap.size + 1 + 1 + 1, 0, none⟩ (.int .i64 a1)).setCell ⟨w.heap.size + 1 + 1 + 1, 1, none⟩ (.int .i64 a2)).setCell ⟨w.heap.size + 1 + 1 + 1, 2, none⟩ (.int .i64 a3)) (w.heap.size + 1 + 1 + 1) 46 #[.int .i64 a1, .int .i64 a2, .int .i64 a3] := (((hb.set_ 0 _).set_ 1 _).set_ 2 _)
          exact rg_skip (w' := (((w5.setCell ⟨w.heap.size + 1 + 1 + 1, 0, none⟩ (.int .i64 a1)).setCell ⟨w.heap.size + 1 + 1 + 1, 1, none⟩ (.int .i64 a2)).setCell ⟨w.heap.size + 1 + 1 + 1, 2, none⟩ (.int .i64 a3))) (by simp [execOp, go_sem, e0, e1, x0, x1, x2, f0, f1, f2]) rfl ⟨hch.trans (hs.mono (fun _ _ x => .inr x)), hst0.keep (by decide) hm hs (fun he => absurd (show w.heap.size + 1 + 1 = w.heap.size + 1 + 1 + 1 from he) (by omega)), StI.store (by decide) m1 hb'⟩ (hs.mono (fun _ _ x => .inr x)) trivial
        · rintro kc m a w5 hkc ⟨hch, hst0, hst1⟩ hm hn
          exact rg_val (v := .int .i64 0) (by simp [execOp, go_sem]) rfl ⟨hch, hst0.keep (by decide) hm (Chg.refl NoB _) (fun x => x), hst1.keep (by decide) hm (Chg.refl NoB _) (fun x => x)⟩ (Chg.refl _ _) rfl
        · rintro kc m a w5 hkc ⟨hch, hst0, hst1⟩ hm hn
          exact rg_val (v := .bool false) (by simp [execOp, go_sem]) rfl ⟨hch, hst0.keep (by decide) hm (Chg.refl NoB _) (fun x => x), hst1.keep (by decide) hm (Chg.refl NoB _) (fun x => x)⟩ (Chg.refl _ _) rfl
      rintro m w5 ⟨hch, hst0, hst1⟩
      simp only [AllVals]
      rintro q0 m0 p0 q1 m1 p1 q2 m2 p2 q3 m3 p3 q4 m4 p4 q5 m5 p5 q6 m6 p6 q7 m7 p7 q8 m8 p8 q9 m9 p9
      obtain ⟨A5, c5, T5, rfl, hT5, hO5⟩ := p5
      obtain ⟨g6, T6, rfl, hT6, hO6⟩ := p3
      obtain rfl := p4
      obtain rfl := p8
      obtain rfl := p9
      have hb1 : Blk w5 (w.heap.size + 1 + 1) 31 #[.slice (some ⟨g6, 0, none⟩) 8 8] := hst0.done m6 m3
      have hb2 : Blk w5 (w.heap.size + 1 + 1 + 1) 46 #[.int .i64 a1, .int .i64 a2, .int .i64 a3] := hst1.done m7 m4
      have r0 : w5.cell? ⟨w.heap.size + 1 + 1, 0, none⟩ = some (.slice (some ⟨g6, 0, none⟩) 8 8) := (hb1.cell _).trans rfl
      have r1 : w5.cell? ⟨w.heap.size + 1 + 1 + 1, 0, none⟩ = some (.int .i64 a1) := (hb2.cell _).trans rfl
      have r2 : w5.cell? ⟨w.heap.size + 1 + 1 + 1, 1, none⟩ = some (.int .i64 a2) := (hb2.cell _).trans rfl
      have r3 : w5.cell? ⟨w.heap.size + 1 + 1 + 1, 2, none⟩ = some (.int .i64 a3) := (hb2.cell _).trans rfl
      have HCR := Lib.hid hch
      have HO5 := Lib.hid hO5
      have HT5 := Lib.hid hT5.out
      have HO6 := Lib.hid hO6
      have HT6 := Lib.hid hT6.out
      clear hch hO5 hT5 hO6 hT6 hb1 hb2 t0 u0 u1 u2 hst0 hst1
      clear p0 p1 p2 p6 p7
      simp only [Act.put, List.setIfInBounds_toArray, List.set_cons_succ, List.set_cons_zero]
      go_wp2_with fail
      (try simp only [Exit.inBlock, Exit.then])
      refine bodyPost_ret (v := .tuple #[.slice A5 D.length c5, .agg #[.slice (some ⟨g6, 0, none⟩) 8 8], .agg #[.int .i64 a1, .int .i64 a2, .int .i64 a3], .int .i64 0, .bool false]) (by simp [results, Try.results25, go_sem, *]) rfl ?_
      have hcc := HC.out.trans' HCR.out (fun i hi => .inr (by rcases hi with h6 | h6 <;> omega))
      unfold CleanP
      rw [HSAME.out]
      exact ⟨A5, c5, T5, some ⟨g6, 0, none⟩, 8, T6, by simp only [HL8.out], HT5.out, HT6.out, HO5.out.more HC.out.size (Nat.le_refl _), HO6.out.more HC.out.size (Nat.le_refl _), hcc⟩
    have hpgs : stamped (pgAt D (4 * N + k)) (s + (m : Int)) = ⟨true, (f : Int), (p : Int), va, s + (m : Int)⟩ := by unfold stamped; rw [HPG.out]
    have hpf : (pgAt D (4 * N + k)).file.toNat = f := by rw [HPG.out]; rfl
    have hpp : (pgAt D (4 * N + k)).place.toNat = p := by rw [HPG.out]; rfl
    have hpok := stamped_ok HH.out.1 (x := 4 * N + k) (by have := HNL.out; omega) (by rw [HPG.out]) (s := s + (m : Int)) (by omega) hbig
    have hst := fun hz => HRE.out.trans (cbRun_stop (D := D) (X := X) (n := N) (r := r) (k := k) (s := s) (E := E) (Y := Y) (h := ⟨z1, z2, z3⟩) (m := m) HHIT.out hz)
    have hsp := fun hz => HRE.out.trans (cbRun_step (D := D) (X := X) (n := N) (r := r) (k := k) (s := s) (E := E) (Y := Y) (h := ⟨z1, z2, z3⟩) (m := m) HHIT.out hbig hz)
    have hci := fun hz => CbI.step HCI.out hpok.1 hpok.2 hz
    rw [hpgs] at hst hsp hci hpok
    rw [hpf, hpp] at hsp
    have HSTOP := Lib.hid hst
    have HSTEP := Lib.hid hsp
    have HCST := Lib.hid hci
    have HPOK := Lib.hid hpok
    have HAPH := Lib.hid (HeadsOk.append (D := E) (h := ⟨z1, z2, z3⟩) (n := 2) HCI.out.ok (by omega) hpok.1 hpok.2)
    have HE12 := Lib.hid (show E.length ≤ 12 from HCI.out.ok.1.1.2)
    clear hst hsp hci hpok hpgs hpf hpp
    have hk7 := HK7.out.chg HCP.out (fun x => x)
    have v0 : (w9.setCell ⟨wr.heap.size, 4, none⟩ (.int .i64 (s + (m : Int)))).cell? ⟨b7, 0, none⟩ = some (.int .i64 z1) := (hk7.cell _).trans rfl
    have v1 : (w9.setCell ⟨wr.heap.size, 4, none⟩ (.int .i64 (s + (m : Int)))).cell? ⟨b7, 1, none⟩ = some (.int .i64 z2) := (hk7.cell _).trans rfl
    have v2 : (w9.setCell ⟨wr.heap.size, 4, none⟩ (.int .i64 (s + (m : Int)))).cell? ⟨b7, 2, none⟩ = some (.int .i64 z3) := (hk7.cell _).trans rfl
    have hpb := HPB2.out
    have x0 : (w9.setCell ⟨wr.heap.size, 4, none⟩ (.int .i64 (s + (m : Int)))).cell? ⟨wr.heap.size, 0, none⟩ = some (.bool true) := (hpb.cell _).trans rfl
    have x1 : (w9.setCell ⟨wr.heap.size, 4, none⟩ (.int .i64 (s + (m : Int)))).cell? ⟨wr.heap.size, 1, none⟩ = some (.int .i64 (f : Int)) := (hpb.cell _).trans rfl
    have x2 : (w9.setCell ⟨wr.heap.size, 4, none⟩ (.int .i64 (s + (m : Int)))).cell? ⟨wr.heap.size, 2, none⟩ = some (.int .i64 (p : Int)) := (hpb.cell _).trans rfl
    have x3 : (w9.setCell ⟨wr.heap.size, 4, none⟩ (.int .i64 (s + (m : Int)))).cell? ⟨wr.heap.size, 3, none⟩ = some (.int .i64 va) := (hpb.cell _).trans rfl
    have x4 : (w9.setCell ⟨wr.heap.size, 4, none⟩ (.int .i64 (s + (m : Int)))).cell? ⟨wr.heap.size, 4, none⟩ = some (.int .i64 (s + (m : Int))) := (hpb.cell _).trans rfl
    clear hk7 hpb
    go_wp2_with fail
    obtain ⟨w10, hw10⟩ : ∃ w10, w9.setCell ⟨wr.heap.size, 4, none⟩ (.int .i64 (s + (m : Int))) = w10 := ⟨_, rfl⟩
    rw [hw10]
    rw [hw10] at HCP HPB2
    clear x0 x1 x2 x3 x4 v0 v1 v2 y0 y1 y2 y3 y4 yf0 yf1 yf2 yf3 yf4 hw10
    have HAP := Lib.hid (iAppendPage_any _ Aq cq E ⟨z1, z2, z3⟩ 2 ⟨true, (f : Int), (p : Int), va, s + (m : Int)⟩ w10 (HT1.out ▸ (HO1.out.new HCP.out).reads) HCI.out.ok (by omega) HPOK.out.1 rfl)
    refine HAP.out.mono ?_
    rintro e wz ⟨A6, c6, T6, rfl, hT6, hO6, hcz⟩
    clear HAP HPOK
    obtain ⟨⟨E6, ⟨y1, y2, y3⟩, z⟩, hap⟩ : ∃ q, appendPage E ⟨z1, z2, z3⟩ ((2 : Nat) : Int) ⟨true, (f : Int), (p : Int), va, s + (m : Int)⟩ = q := ⟨_, rfl⟩
    rw [hap] at hT6 HSTOP HSTEP HCST HAPH ⊢
    clear hap
    have HCZ := Lib.hid (HCP.out.trans hcz)
    have HCZ' := Lib.hid hcz
    have hk7 := HK7.out.chg HCZ.out (fun x => x)
    have v0 : wz.cell? ⟨b7, 0, none⟩ = some (.int .i64 z1) := (hk7.cell _).trans rfl
    have vf0 := hk7.frozen 0
    have v1 : wz.cell? ⟨b7, 1, none⟩ = some (.int .i64 z2) := (hk7.cell _).trans rfl
    have vf1 := hk7.frozen 1
    have v2 : wz.cell? ⟨b7, 2, none⟩ = some (.int .i64 z3) := (hk7.cell _).trans rfl
    have vf2 := hk7.frozen 2
    have hcs : Chg (· = b7) wz (((wz.setCell ⟨b7, 0, none⟩ (.int .i64 y1)).setCell ⟨b7, 1, none⟩ (.int .i64 y2)).setCell ⟨b7, 2, none⟩ (.int .i64 y3)) := chg3h (F := (· = b7)) (g := b7) (Chg.refl (· = b7) _) (.inl rfl)
    have HCS := Lib.hid hcs
    have HCSR := Lib.hid (RB2.box2 (B := 0) (T1 := 31) hcs (Nat.zero_le _) hk7)
    have HK7' := Lib.hid (show Blk (((wz.setCell ⟨b7, 0, none⟩ (.int .i64 y1)).setCell ⟨b7, 1, none⟩ (.int .i64 y2)).setCell ⟨b7, 2, none⟩ (.int .i64 y3)) b7 46 #[.int .i64 y1, .int .i64 y2, .int .i64 y3] from ((hk7.set_ 0 _).set_ 1 _).set_ 2 _)
    have HT6 := Lib.hid hT6
    have HO6 := Lib.hid hO6
    clear hk7 hcs hT6 hO6 hcz
    have hb67 := HB67.out
    have hfa := HFA.out
    have hlr := HB4.out.lt
    have hpl := HPB2.out.lt
    have HNB := Lib.hid (show wr.heap.size ≠ b7 from fun he => by have h1 := HPB2.out.chg HCZ'.out (fun x => x); rw [he] at h1; exact absurd (h1.sameTy (HK7.out.chg HCZ.out (fun x => x))) (by decide))
    by_cases hz : z < 0
    case pos =>
      have HSAME := Lib.hid (show cleanBlock D X ⟨a1, a2, a3⟩ (N : Int) s = ⟨D, X, ⟨a1, a2, a3⟩, 0, false⟩ by rw [HCB.out, HSTOP.out hz]; rfl)
      go_wp2_with fail
      obtain ⟨w11, hw11⟩ : ∃ w11, ((wz.setCell ⟨b7, 0, none⟩ (.int .i64 y1)).setCell ⟨b7, 1, none⟩ (.int .i64 y2)).setCell ⟨b7, 2, none⟩ (.int .i64 y3) = w11 := ⟨_, rfl⟩
      rw [hw11]
      rw [hw11] at HCS
      have hcz := HCZ.out
      clear v0 v1 v2 vf0 vf1 vf2 hw11
      replace HB1 := Lib.hid (HB1.out.chg hcz (fun x => x))
      replace HB2 := Lib.hid (HB2.out.chg hcz (fun x => x))
      replace HB3 := Lib.hid (HB3.out.chg hcz (fun x => x))
      replace HB4 := Lib.hid (HB4.out.chg hcz (fun x => x))
      replace HC := Lib.hid (HC.out.trans hcz)
      clear hcz
      replace HB1 := Lib.hid (HB1.out.chg HCS.out (show ¬ (_ = b7) by omega))
      replace HB2 := Lib.hid (HB2.out.chg HCS.out (show ¬ (_ = b7) by omega))
      replace HB3 := Lib.hid (HB3.out.chg HCS.out (show ¬ (_ = b7) by omega))
      replace HB4 := Lib.hid (HB4.out.chg HCS.out (show ¬ (_ = b7) by omega))
      replace HC := Lib.hid (HC.out.own HCS.out (Nat.le_trans HSZ8.out hb67.2))
      have HFA := Lib.hid (show w.heap.size + 1 + 1 + 1 < w11.heap.size from HB4.out.lt)
      have HCD := Lib.hid (show ∀ wx, Chg (fun k => k = w.heap.size + 1 + 1 ∨ k = w.heap.size + 1 + 1 + 1) w11 wx → Calls Try.prog 87 #[.slice (some ⟨bb, oo, none⟩) D.length c0] wx (fun e w' => ∃ A5 c5 T5, e = .returned (.slice A5 D.length c5) ∧ Hid (bksOf T5 = D) ∧ DevQ wx.heap.size w'.heap.size w' A5 c5 T5 ∧ Chg NoB wx w') from fun wx hq => (cloneDevice_any _ (some ⟨bb, oo, none⟩) c0 D wx (((HD0.out.new HC.out).chg hq (fun i hi hk => by have h5 := hi.2; rcases hk with h6 | h6 <;> omega))) HH.out.1).mono fun e w' ⟨A5, c5, T5, h1, h2, h3, h4⟩ => ⟨A5, c5, T5, h1, Lib.hid h2, h3, h4⟩)
      have HCT := Lib.hid (show ∀ wx, Chg (fun k => k = w.heap.size + 1 + 1 ∨ k = w.heap.size + 1 + 1 + 1) w11 wx → Calls Try.prog 88 #[.agg #[.slice A 8 c]] wx (fun e w' => ∃ g6 T6, e = .returned (.agg #[.slice (some ⟨g6, 0, none⟩) 8 8]) ∧ Hid (listsOf T6 = X) ∧ TabO wx.heap.size w'.heap.size w' (some ⟨g6, 0, none⟩) 8 T6 ∧ Chg NoB wx w') from fun wx hq => by
        have h9 := cloneTable_any _ A c X wx (((HT0.out.new HC.out).chg hq (fun i hi hk => by have h5 := hi.2; rcases hk with h6 | h6 <;> omega))) HX.out
        rw [HL8.out] at h9
        exact h9.mono fun e w' ⟨g6, T6, h1, h2, h3, h4⟩ => ⟨g6, T6, h1, Lib.hid h2, h4, h3⟩)
      have hbt := HB1.out
      have t0 : w11.cell? ⟨w.heap.size, 0, none⟩ = some (.slice A 8 c) := (hbt.cell _).trans rfl
      have hbh := HB2.out
      have u0 : w11.cell? ⟨(w.heap.size + 1), 0, none⟩ = some (.int .i64 a1) := (hbh.cell _).trans rfl
      have u1 : w11.cell? ⟨(w.heap.size + 1), 1, none⟩ = some (.int .i64 a2) := (hbh.cell _).trans rfl
      have u2 : w11.cell? ⟨(w.heap.size + 1), 2, none⟩ = some (.int .i64 a3) := (hbh.cell _).trans rfl
      clear hbt hbh
      refine wp_region_rg (WInv := fun _ m w5 => Chg (fun k => k = w.heap.size + 1 + 1 ∨ k = w.heap.size + 1 + 1 + 1) w11 w5 ∧ StI (w.heap.size + 1 + 1) 31 #[.slice none 0 0] 6 3 m w5 ∧ StI (w.heap.size + 1 + 1 + 1) 46 #[.int .i64 0, .int .i64 0, .int .i64 0] 7 4 m w5) (R := Chg (fun k => k = w.heap.size + 1 + 1 ∨ k = w.heap.size + 1 + 1 + 1)) (Post := PL [fun v w => v = .slice (some ⟨bb, oo, none⟩) D.length c0, fun v w => ∃ A5 : Option Addr, ∃ c5 : Nat, ∃ T5 : List BkO, v = .slice A5 D.length c5 ∧ Hid (bksOf T5 = D) ∧ DevQ w11.heap.size w.heap.size w A5 c5 T5, fun v w => v = .agg #[.slice A 8 c], fun v w => ∃ g6 : Nat, ∃ T6 : List RowO, v = .agg #[.slice (some ⟨g6, 0, none⟩) 8 8] ∧ Hid (listsOf T6 = X) ∧ TabO w11.heap.size w.heap.size w (some ⟨g6, 0, none⟩) 8 T6, fun v w => v = .agg #[.int .i64 a1, .int .i64 a2, .int .i64 a3], fun v w => ∃ A5 : Option Addr, ∃ c5 : Nat, ∃ T5 : List BkO, v = .slice A5 D.length c5 ∧ Hid (bksOf T5 = D) ∧ DevQ w11.heap.size w.heap.size w A5 c5 T5, fun _ _ => True, fun _ _ => True, fun v w => v = .int .i64 0, fun v w => v = .bool false]) (by kernel_rfl) (by kernel_rfl) ?_ (pl_stab ⟨(fun _ _ _ h _ => h), (fun _ _ _ ⟨A5, c5, T5, hv, hT5, hO5⟩ hR => ⟨A5, c5, T5, hv, hT5, ((hO5.chg hR (fun i h1 h2 h3 => by have h4 := HFA.out; omega)).more (Nat.le_refl _) hR.size)⟩), (fun _ _ _ h _ => h), (fun _ _ _ ⟨g6, T6, hv, hT6, hO6⟩ hR => ⟨g6, T6, hv, hT6, ((hO6.chg hR (fun i h1 h2 h3 => by have h4 := HFA.out; omega)).more (Nat.le_refl _) hR.size)⟩), (fun _ _ _ h _ => h), (fun _ _ _ ⟨A5, c5, T5, hv, hT5, hO5⟩ hR => ⟨A5, c5, T5, hv, hT5, ((hO5.chg hR (fun i h1 h2 h3 => by have h4 := HFA.out; omega)).more (Nat.le_refl _) hR.size)⟩), (fun _ _ _ _ _ => trivial), (fun _ _ _ _ _ => trivial), (fun _ _ _ h _ => h), (fun _ _ _ h _ => h), trivial⟩) ⟨(Chg.refl _ _).drew, .inl ⟨rfl, HB3.out.chg (Chg.refl NoB _).drew (fun x => x)⟩, .inl ⟨rfl, HB4.out.chg (Chg.refl NoB _).drew (fun x => x)⟩⟩ ?_ ?_
      · exact fun _ _ _ _ h _ _ => h
      · refine ⟨?_, ?_, ?_, ?_, ?_, ?_, ?_, ?_, ?_, ?_, trivial⟩
        · rintro kc m a w5 hkc ⟨hch, hst0, hst1⟩ hm hn
          obtain ⟨h0, -⟩ := hn
          have e0 : a.tmps[0]?.getD undef = .slice (some ⟨bb, oo, none⟩) D.length c0 := h0
          exact rg_val (v := .slice (some ⟨bb, oo, none⟩) D.length c0) (by simp [execOp, go_sem, e0]) rfl ⟨hch, hst0.keep (by decide) hm (Chg.refl NoB _) (fun x => x), hst1.keep (by decide) hm (Chg.refl NoB _) (fun x => x)⟩ (Chg.refl _ _) rfl
        · rintro kc m a w5 hkc ⟨hch, hst0, hst1⟩ hm hn
          obtain ⟨⟨_, e0, m0, rfl⟩, -⟩ := hn
          refine rg_call (f := 87) (args := #[.slice (some ⟨bb, oo, none⟩) D.length c0]) (by simp [go_sem, e0]) rfl ?_
          refine (HCD.out _ hch).mono ?_
          rintro e' w6 ⟨A5, c5, T5, rfl, hT5, hO5, hc6⟩
          exact ⟨_, rfl, ⟨hch.trans' hc6 (fun _ x => x.elim), hst0.keep (by decide) hm hc6 (fun x => x), hst1.keep (by decide) hm hc6 (fun x => x)⟩, (hc6.mono (fun _ _ x => x.elim)), ⟨A5, c5, T5, rfl, hT5, (hO5.more hch.size (Nat.le_refl _))⟩⟩
        · rintro kc m a w5 hkc ⟨hch, hst0, hst1⟩ hm hn
          obtain ⟨h0, -⟩ := hn
          have e0 : a.tmps[6]?.getD undef = .pointer (some ⟨w.heap.size, 0, none⟩) := h0
          have y0 := hch.cell t0 (show ¬ (w.heap.size = w.heap.size + 1 + 1 ∨ w.heap.size = w.heap.size + 1 + 1 + 1) by omega)
          exact rg_val (v := .agg #[.slice A 8 c]) (by simp [execOp, go_sem, e0, y0]) rfl ⟨hch, hst0.keep (by decide) hm (Chg.refl NoB _) (fun x => x), hst1.keep (by decide) hm (Chg.refl NoB _) (fun x => x)⟩ (Chg.refl _ _) rfl
        · rintro kc m a w5 hkc ⟨hch, hst0, hst1⟩ hm hn
          obtain ⟨⟨_, e0, m0, rfl⟩, -⟩ := hn
          refine rg_call (f := 88) (args := #[.agg #[.slice A 8 c]]) (by simp [go_sem, e0]) rfl ?_
          refine (HCT.out _ hch).mono ?_
          rintro e' w6 ⟨g6, T6, rfl, hT6, hO6, hc6⟩
          exact ⟨_, rfl, ⟨hch.trans' hc6 (fun _ x => x.elim), hst0.keep (by decide) hm hc6 (fun x => x), hst1.keep (by decide) hm hc6 (fun x => x)⟩, (hc6.mono (fun _ _ x => x.elim)), ⟨g6, T6, rfl, hT6, (hO6.more hch.size (Nat.le_refl _))⟩⟩
        · rintro kc m a w5 hkc ⟨hch, hst0, hst1⟩ hm hn
          obtain ⟨h0, -⟩ := hn
          have e0 : a.tmps[7]?.getD undef = .pointer (some ⟨w.heap.size + 1, 0, none⟩) := h0
          have y0 := hch.cell u0 (show ¬ (w.heap.size + 1 = w.heap.size + 1 + 1 ∨ w.heap.size + 1 = w.heap.size + 1 + 1 + 1) by omega)
          have y1 := hch.cell u1 (show ¬ (w.heap.size + 1 = w.heap.size + 1 + 1 ∨ w.heap.size + 1 = w.heap.size + 1 + 1 + 1) by omega)
          have y2 := hch.cell u2 (show ¬ (w.heap.size + 1 = w.heap.size + 1 + 1 ∨ w.heap.size + 1 = w.heap.size + 1 + 1 + 1) by omega)
          exact rg_val (v := .agg #[.int .i64 a1, .int .i64 a2, .int .i64 a3]) (by simp [execOp, go_sem, e0, y0, y1, y2]) rfl ⟨hch, hst0.keep (by decide) hm (Chg.refl NoB _) (fun x => x), hst1.keep (by decide) hm (Chg.refl NoB _) (fun x => x)⟩ (Chg.refl _ _) rfl
        · rintro kc m a w5 hkc ⟨hch, hst0, hst1⟩ hm hn
          obtain ⟨⟨_, e0, m0, A5, c5, T5, rfl, hT5, hO5⟩, -⟩ := hn
          exact rg_val (v := .slice A5 D.length c5) (by simp [execOp, go_sem, e0]) rfl ⟨hch, hst0.keep (by decide) hm (Chg.refl NoB _) (fun x => x), hst1.keep (by decide) hm (Chg.refl NoB _) (fun x => x)⟩ (Chg.refl _ _) ⟨A5, c5, T5, rfl, hT5, hO5⟩
        · rintro kc m a w5 hkc ⟨hch, hst0, hst1⟩ hm hn
          obtain ⟨h0, ⟨_, e1, m1, g6, T6, rfl, hT6, hO6⟩, -⟩ := hn
          have e0 : a.tmps[11]?.getD undef = .pointer (some ⟨w.heap.size + 1 + 1, 0, none⟩) := h0
          have hb := hst0.ready hm
          have f0 := hb.frozen 0
          have x0 : w5.cell? ⟨w.heap.size + 1 + 1, 0, none⟩ = some (.slice none 0 0) := (hb.cell _).trans rfl
          have hs : Chg (· = w.heap.size + 1 + 1) w5 (w5.setCell ⟨w.heap.size + 1 + 1, 0, none⟩ (.slice (some ⟨g6, 0, none⟩) 8 8)) := ((Chg.refl (· = w.heap.size + 1 + 1) w5).setCell (p := ⟨w.heap.size + 1 + 1, 0, none⟩) (.inl rfl) _)
          have hb' : Blk (w5.setCell ⟨w.heap.size + 1 + 1, 0, none⟩ (.slice (some ⟨g6, 0, none⟩) 8 8)) (w.heap.size + 1 + 1) 31 #[.slice (some ⟨g6, 0, none⟩) 8 8] := (hb.set_ 0 _)
          exact rg_skip (w' := (w5.setCell ⟨w.heap.size + 1 + 1, 0, none⟩ (.slice (some ⟨g6, 0, none⟩) 8 8))) (by simp [execOp, go_sem, e0, e1, x0, f0]) rfl ⟨hch.trans (hs.mono (fun _ _ x => .inl x)), StI.store (by decide) m1 hb', hst1.keep (by decide) hm hs (fun he => absurd (show w.heap.size + 1 + 1 + 1 = w.heap.size + 1 + 1 from he) (by omega))⟩ (hs.mono (fun _ _ x => .inl x)) trivial
        · rintro kc m a w5 hkc ⟨hch, hst0, hst1⟩ hm hn
          obtain ⟨h0, ⟨_, e1, m1, rfl⟩, -⟩ := hn
          have e0 : a.tmps[12]?.getD undef = .pointer (some ⟨w.heap.size + 1 + 1 + 1, 0, none⟩) := h0
          have hb := hst1.ready hm
          have f0 := hb.frozen 0
          have x0 : w5.cell? ⟨w.heap.size + 1 + 1 + 1, 0, none⟩ = some (.int .i64 0) := (hb.cell _).trans rfl
          have f1 := hb.frozen 1
          have x1 : w5.cell? ⟨w.heap.size + 1 + 1 + 1, 1, none⟩ = some (.int .i64 0) := (hb.cell _).trans rfl
          have f2 := hb.frozen 2
          have x2 : w5.cell? ⟨w.heap.size + 1 + 1 + 1, 2, none⟩ = some (.int .i64 0) := (hb.cell _).trans rfl
          have hs : Chg (· = w.heap.size + 1 + 1 + 1) w5 (((w5.setCell ⟨w.heap.size + 1 + 1 + 1, 0, none⟩ (.int .i64 a1)).setCell ⟨w.heap.size + 1 + 1 + 1, 1, none⟩ (.int .i64 a2)).setCell ⟨w.heap.size + 1 + 1 + 1, 2, none⟩ (.int .i64 a3)) := ((((Chg.refl (· = w.heap.size + 1 + 1 + 1) w5).setCell (p := ⟨w.heap.size + 1 + 1 + 1, 0, none⟩) (.inl rfl) _).setCell (p := ⟨w.heap.size + 1 + 1 + 1, 1, none⟩) (.inl rfl) _).setCell (p := ⟨w.heap.size + 1 + 1 + 1, 2, none⟩) (.inl rfl) _)
          have hb' : Blk (((w5.setCell ⟨w.heap.size + 1 + 1 + 1, 0, none⟩ (.int .i64 a1)).setCell ⟨w.heap.size + 1 + 1 + 1, 1, none⟩ (.int .i64 a2)).setCell ⟨w.heap.size + 1 + 1 + 1, 2, none⟩ (.int .i64 a3)) (w.heap.size + 1 + 1 + 1) 46 #[.int .i64 a1, .int .i64 a2, .int .i64 a3] := (((hb.set_ 0 _).set_ 1 _).set_ 2 _)
          exact rg_skip (w' := (((w5.setCell ⟨w.heap.size + 1 + 1 + 1, 0, none⟩ (.int .i64 a1)).setCell ⟨w.heap.size + 1 + 1 + 1, 1, none⟩ (.int .i64 a2)).setCell ⟨w.heap.size + 1 + 1 + 1, 2, none⟩ (.int .i64 a3))) (by simp [execOp, go_sem, e0, e1, x0, x1, x2, f0, f1, f2]) rfl ⟨hch.trans (hs.mono (fun _ _ x => .inr x)), hst0.keep (by decide) hm hs (fun he => absurd (show w.heap.size + 1 + 1 = w.heap.size + 1 + 1 + 1 from he) (by omega)), StI.store (by decide) m1 hb'⟩ (hs.mono (fun _ _ x => .inr x)) trivial
        · rintro kc m a w5 hkc ⟨hch, hst0, hst1⟩ hm hn
          exact rg_val (v := .int .i64 0) (by simp [execOp, go_sem]) rfl ⟨hch, hst0.keep (by decide) hm (Chg.refl NoB _) (fun x => x), hst1.keep (by decide) hm (Chg.refl NoB _) (fun x => x)⟩ (Chg.refl _ _) rfl
        · rintro kc m a w5 hkc ⟨hch, hst0, hst1⟩ hm hn
          exact rg_val (v := .bool false) (by simp [execOp, go_sem]) rfl ⟨hch, hst0.keep (by decide) hm (Chg.refl NoB _) (fun x => x), hst1.keep (by decide) hm (Chg.refl NoB _) (fun x => x)⟩ (Chg.refl _ _) rfl
      rintro m w5 ⟨hch, hst0, hst1⟩
      simp only [AllVals]
      rintro q0 m0 p0 q1 m1 p1 q2 m2 p2 q3 m3 p3 q4 m4 p4 q5 m5 p5 q6 m6 p6 q7 m7 p7 q8 m8 p8 q9 m9 p9
      obtain ⟨A5, c5, T5, rfl, hT5, hO5⟩ := p5
      obtain ⟨g6, T6, rfl, hT6, hO6⟩ := p3
      obtain rfl := p4
      obtain rfl := p8
      obtain rfl := p9
      have hb1 : Blk w5 (w.heap.size + 1 + 1) 31 #[.slice (some ⟨g6, 0, none⟩) 8 8] := hst0.done m6 m3
      have hb2 : Blk w5 (w.heap.size + 1 + 1 + 1) 46 #[.int .i64 a1, .int .i64 a2, .int .i64 a3] := hst1.done m7 m4
      have r0 : w5.cell? ⟨w.heap.size + 1 + 1, 0, none⟩ = some (.slice (some ⟨g6, 0, none⟩) 8 8) := (hb1.cell _).trans rfl
      have r1 : w5.cell? ⟨w.heap.size + 1 + 1 + 1, 0, none⟩ = some (.int .i64 a1) := (hb2.cell _).trans rfl
      have r2 : w5.cell? ⟨w.heap.size + 1 + 1 + 1, 1, none⟩ = some (.int .i64 a2) := (hb2.cell _).trans rfl
      have r3 : w5.cell? ⟨w.heap.size + 1 + 1 + 1, 2, none⟩ = some (.int .i64 a3) := (hb2.cell _).trans rfl
      have HCR := Lib.hid hch
      have HO5 := Lib.hid hO5
      have HT5 := Lib.hid hT5.out
      have HO6 := Lib.hid hO6
      have HT6 := Lib.hid hT6.out
      clear hch hO5 hT5 hO6 hT6 hb1 hb2 t0 u0 u1 u2 hst0 hst1
      clear p0 p1 p2 p6 p7
      simp only [Act.put, List.setIfInBounds_toArray, List.set_cons_succ, List.set_cons_zero]
      go_wp2_with fail
      (try simp only [Exit.inBlock, Exit.then])
      refine bodyPost_ret (v := .tuple #[.slice A5 D.length c5, .agg #[.slice (some ⟨g6, 0, none⟩) 8 8], .agg #[.int .i64 a1, .int .i64 a2, .int .i64 a3], .int .i64 0, .bool false]) (by simp [results, Try.results25, go_sem, *]) rfl ?_
      have hcc := HC.out.trans' HCR.out (fun i hi => .inr (by rcases hi with h6 | h6 <;> omega))
      unfold CleanP
      rw [HSAME.out]
      exact ⟨A5, c5, T5, some ⟨g6, 0, none⟩, 8, T6, by simp only [HL8.out], HT5.out, HT6.out, HO5.out.more HC.out.size (Nat.le_refl _), HO6.out.more HC.out.size (Nat.le_refl _), hcc⟩
    have hz0 : ¬ z < 0 := hz
    have HST := Lib.hid (HSTEP.out (by first | exact hz0 | exact Int.not_lt.1 hz0))
    obtain ⟨hcn, hz47, hzne⟩ := HCST.out (by first | exact hz0 | exact Int.not_lt.1 hz0)
    have HCN := Lib.hid hcn
    have HZNE := Lib.hid hzne
    have HZ47 := Lib.hid (show 0 ≤ z ∧ z ≤ 47 from ⟨Int.not_lt.1 hz0, hz47⟩)
    have g0 : (((wz.setCell ⟨b7, 0, none⟩ (.int .i64 y1)).setCell ⟨b7, 1, none⟩ (.int .i64 y2)).setCell ⟨b7, 2, none⟩ (.int .i64 y3)).cell? ⟨b6, 0, none⟩ = some (.slice (some ⟨gt, 0, none⟩) 8 8) := (((HK6.out.chg HCZ.out (fun x => x)).chg HCS.out HNE.out).cell _).trans rfl
    have hpb := (HPB2.out.chg HCZ'.out (fun x => x)).chg HCS.out HNB.out
    have g1 : (((wz.setCell ⟨b7, 0, none⟩ (.int .i64 y1)).setCell ⟨b7, 1, none⟩ (.int .i64 y2)).setCell ⟨b7, 2, none⟩ (.int .i64 y3)).cell? ⟨wr.heap.size, 1, none⟩ = some (.int .i64 (f : Int)) := (hpb.cell _).trans rfl
    have g2 : (((wz.setCell ⟨b7, 0, none⟩ (.int .i64 y1)).setCell ⟨b7, 1, none⟩ (.int .i64 y2)).setCell ⟨b7, 2, none⟩ (.int .i64 y3)).cell? ⟨wr.heap.size, 2, none⟩ = some (.int .i64 (p : Int)) := (hpb.cell _).trans rfl
    clear hcn hz47 hzne hpb hz
    go_wp2_with fail
    obtain ⟨w11, hw11⟩ : ∃ w11, ((wz.setCell ⟨b7, 0, none⟩ (.int .i64 y1)).setCell ⟨b7, 1, none⟩ (.int .i64 y2)).setCell ⟨b7, 2, none⟩ (.int .i64 y3) = w11 := ⟨_, rfl⟩
    rw [hw11]
    rw [hw11] at HCS HCSR HK7'
    clear v0 v1 v2 vf0 vf1 vf2 g0 g1 g2 hw11
    have HO2' := Lib.hid ((HO2.out.new HCZ.out).box2 HCSR.out)
    have HTP := Lib.hid (show Calls Try.prog 90 #[.agg #[.slice (some ⟨gt, 0, none⟩) 8 8], .int .i64 (f : Int), .int .i64 (p : Int), .int .i64 z] w11 (TbPutP w11 Y f p z) from by
      have h9 := iTablePut_any _ (some ⟨gt, 0, none⟩) 8 Y w11 (HT2.out ▸ HO2'.out.reads) HCI.out.tab f p z HFP.out.1 HFP.out.2 HZ47.out HZNE.out
      rw [HCI.out.tab.1] at h9
      exact h9)
    refine HTP.out.mono ?_
    rintro e wy ⟨g7, T7, rfl, hT7, hcy, hO7⟩
    clear HTP
    have hk6 := ((HK6.out.chg HCZ.out (fun x => x)).chg HCS.out HNE.out).chg hcy (fun x => x)
    have v0 : wy.cell? ⟨b6, 0, none⟩ = some (.slice (some ⟨gt, 0, none⟩) 8 8) := (hk6.cell _).trans rfl
    have vf0 := hk6.frozen 0
    have hcs6 : Chg (· = b6) wy (wy.setCell ⟨b6, 0, none⟩ (.slice (some ⟨g7, 0, none⟩) 8 8)) := (Chg.refl (· = b6) wy).setCell (p := ⟨b6, 0, none⟩) (.inl rfl) _
    have HK6' := Lib.hid (show Blk (wy.setCell ⟨b6, 0, none⟩ (.slice (some ⟨g7, 0, none⟩) 8 8)) b6 31 #[.slice (some ⟨g7, 0, none⟩) 8 8] from hk6.set_ 0 _)
    have HC6 := Lib.hid hcs6
    have HC6R := Lib.hid (RB2.box1 (B := 0) (T2 := 46) hcs6 (Nat.zero_le _) hk6)
    have HCY := Lib.hid hcy
    have HO7 := Lib.hid hO7
    have HT7 := Lib.hid hT7
    clear hk6 hcs6 hcy hO7 hT7
    have hwm : IntKind.i64.wrap ((m : Int) + 1) = (m : Int) + 1 := IntWalk.i64_in _ ⟨by omega, by omega⟩
    go_wp2_with fail
    go_roundw
    case rel =>
      have hh6 : w.heap.size ≤ b6 := Nat.le_trans HSZ8.out hb67.1
      have hh7 : w.heap.size ≤ b7 := Nat.le_trans HSZ8.out hb67.2
      have h16 : ∀ {q : Nat} {t : TypeId} {cs : Array Value}, Blk wr q t cs → q ≠ b7 → q ≠ b6 → Blk (wy.setCell ⟨b6, 0, none⟩ (.slice (some ⟨g7, 0, none⟩) 8 8)) q t cs := fun h1 h2 h3 => (((h1.chg HCZ.out (fun x => x)).chg HCS.out h2).chg HCY.out (fun x => x)).chg HC6.out h3
      exact ⟨k + 1, E6, tput Y f p z, y1, y2, y3, m + 1, A6, c6, T6, _, _, g7, T7, _, _, by omega, by go_num, by rw [show E6.length = E.length from HAPH.out.2], by go_num, by omega,
        HT6.out, ((HO6.out.box2 HCSR.out).new HCY.out).box2 HC6R.out, by have := HC.out.size; have := HCP.out.size; omega, by have h1 := HCS.out.size; have h2 := HCY.out.size; have h3 := HC6.out.size; omega,
        HT7.out, HO7.out.box2 HC6R.out, by have := HC.out.size; have := HCZ.out.size; have := HCS.out.size; omega, HC6.out.size, (((HC.out.trans HCZ.out).own HCS.out hh7).trans HCY.out).own HC6.out hh6,
        h16 HB1.out (by omega) (by omega), h16 HB2.out (by omega) (by omega), h16 HB3.out (by omega) (by omega), h16 HB4.out (by omega) (by omega), HK6'.out, ((HK7'.out.chg HCY.out (fun x => x)).chg HC6.out (fun he => HNE.out he.symm)),
        HCN, Lib.hid (by rw [HR4.out]; exact HST.out)⟩
    case measure => simp [intOf]; omega
end Go.Proofs.Ytpiojofmflfkkaa
