/- pageAt, ReadPage. -/
import Derived.Test.YtenbbkmbnpdfaaaVg
import Derived.RegionTactic
import Derived.ChangeAlike
namespace Go.Proofs.Ytenbbkmbnpdfaaa
open Go.RowKit

theorem chg5 {F : Nat → Prop} {w W : World} {g : Nat} {a b c d e : Value} (h : Chg F w W) (hg : F g ∨ w.heap.size ≤ g) :
    Chg F w (((((W.setCell ⟨g, 0, none⟩ a).setCell ⟨g, 1, none⟩ b).setCell ⟨g, 2, none⟩ c).setCell ⟨g, 3, none⟩ d).setCell ⟨g, 4, none⟩ e) :=
  ((((h.setCell (p := ⟨g, 0, none⟩) hg _).setCell (p := ⟨g, 1, none⟩) hg _).setCell (p := ⟨g, 2, none⟩) hg _).setCell (p := ⟨g, 3, none⟩) hg _).setCell (p := ⟨g, 4, none⟩) hg _
/-- Where the page with a number lies. -/
theorem dev_page {F : Nat → Prop} {w : World} {A : Option Addr} {D : List Bk} (h : DevR F w A D) (hd : DvOk D) {n : Nat} (hn : n < 4 * D.length) :
    ∃ (q r bb o b2 o2 c2 : Nat), (n : Int) / 4 = (q : Int) ∧ (n : Int) % 4 = (r : Int) ∧ q < D.length ∧ r < 4 ∧ A = some ⟨bb, o, none⟩ ∧ F bb ∧ w.cell? ⟨bb, o + q * 2 + 1, none⟩ = some (.slice (some ⟨b2, o2, none⟩) 4 c2) ∧ F b2 ∧
      w.cell? ⟨b2, o2 + r * 5, none⟩ = some (.bool (pgAt D n).full) ∧ w.cell? ⟨b2, o2 + r * 5 + 1, none⟩ = some (.int .i64 (pgAt D n).file) ∧ w.cell? ⟨b2, o2 + r * 5 + 2, none⟩ = some (.int .i64 (pgAt D n).place) ∧
      w.cell? ⟨b2, o2 + r * 5 + 3, none⟩ = some (.int .i64 (pgAt D n).value) ∧ w.cell? ⟨b2, o2 + r * 5 + 4, none⟩ = some (.int .i64 (pgAt D n).stamp) := by
  have hq : n / 4 < D.length := by omega
  obtain ⟨bb, o, A', c', rfl, hf, c0, c1, hr, hcc⟩ := h (n / 4) hq
  have h4 : D[n / 4].pages.length = 4 := (hd.2 _ hq).2.1
  have hr4 : n % 4 < D[n / 4].pages.length := by omega
  obtain ⟨b2, o2, rfl, hf2, hb2, d0, d1, d2, d3, d4⟩ := pgs_at hr hr4
  have e : pgAt D n = D[n / 4].pages[n % 4] := by
    unfold pgAt
    rw [getD_at hq, List.getD_eq_getElem?_getD, List.getElem?_eq_getElem hr4]; rfl
  rw [h4] at c1
  rw [e]
  exact ⟨n / 4, n % 4, bb, o, b2, o2, c', by omega, by omega, hq, by omega, rfl, hf, c1, hf2, d0, d1, d2, d3, d4⟩
set_option maxRecDepth 100000 in
set_option maxHeartbeats 1000000 in
theorem pageAt_any (F : Nat → Prop) (A : Option Addr) (c : Nat) (D : List Bk) (n : Nat) (w : World) (h : DevR F w A D) (hd : DvOk D) (hn : n < 4 * D.length) :
    Calls Try.prog 77 #[.slice A D.length c, .int .i64 n] w fun e w' => e = .returned (pval (pgAt D n)) ∧ Chg NoB w w' := by
  have h2 := hd.1.2
  obtain ⟨q, r, bb, o, b2, o2, c2, hq, hr, hql, hr4, rfl, hf, c1, hf2, d0, d1, d2, d3, d4⟩ := dev_page (h.new ((Chg.refl NoB w).alloc (.cells #[.bool false, .int .i64 0, .int .i64 0, .int .i64 0, .int .i64 0] 60))) hd hn
  have hi0 : (0 : Int) ≤ (n : Int) := Int.natCast_nonneg _
  have hi1 : (n : Int) < 48 := by omega
  have hq0 : (0 : Int) ≤ (q : Int) := Int.natCast_nonneg _
  have hq1 : (q : Int) < (D.length : Int) := by omega
  have hr0 : (0 : Int) ≤ (r : Int) := Int.natCast_nonneg _
  have hr1 : (r : Int) < 4 := by omega
  clear h hd
  go_enter Try.func77, Try.ntmps77
  go_wp2
  exact bodyPost_ret (v := pval (pgAt D n)) (by simp [results, Try.results77, go_sem]) rfl ⟨rfl, (Chg.refl _ _).alloc _⟩
abbrev z5 : Array Value := #[.bool false, .int .i64 0, .int .i64 0, .int .i64 0, .int .i64 0]
theorem readPage_no {D : List Bk} {n : Int} (h : ¬ (DvOk D ∧ 0 ≤ n ∧ n < 4 * (D.length : Int))) : readPage D n = zPg := if_neg h
theorem readPage_yes {D : List Bk} {n : Nat} (h : DvOk D) (hn : n < 4 * D.length) : readPage D (n : Int) = pgAt D n := by
  unfold readPage
  rw [if_pos ⟨h, by omega, by omega⟩, Int.toNat_natCast]
set_option maxRecDepth 100000 in
set_option maxHeartbeats 1000000 in
theorem iReadPage_any (F : Nat → Prop) (A : Option Addr) (c : Nat) (D : List Bk) (n : Int) (w : World) (h : DevR F w A D) :
    Calls Try.prog 51 #[.slice A D.length c, .int .i64 n] w fun e w' => e = .returned (.tuple #[pval (readPage D n), .bool (readPage D n).full]) ∧ Chg NoB w w' := by
  have hca := (Chg.refl NoB w).alloc (.cells #[.bool false, .int .i64 0, .int .i64 0, .int .i64 0, .int .i64 0] 60)
  have HB := Lib.hid (Blk.new w 60 #[.bool false, .int .i64 0, .int .i64 0, .int .i64 0, .int .i64 0])
  have HC := Lib.hid hca
  have HR := Lib.hid (h.new hca)
  clear hca h
  by_cases hd : DvOk D
  case neg =>
    have HD := Lib.hid hd
    clear hd
    go_enter Try.func51, Try.ntmps51
    go_wp2_with fail
    refine (iDeviceValid_f _ A c D _ HR.out HD.out).mono ?_
    rintro e w1 ⟨rfl, hc1⟩
    have HCC := Lib.hid (HC.out.trans hc1)
    have hb := HB.out.chg hc1 (fun x => x)
    have x0 : w1.cell? ⟨w.heap.size, 0, none⟩ = some (.bool false) := (hb.cell _).trans rfl
    have f0 := hb.frozen 0
    have x1 : w1.cell? ⟨w.heap.size, 1, none⟩ = some (.int .i64 0) := (hb.cell _).trans rfl
    have f1 := hb.frozen 1
    have x2 : w1.cell? ⟨w.heap.size, 2, none⟩ = some (.int .i64 0) := (hb.cell _).trans rfl
    have f2 := hb.frozen 2
    have x3 : w1.cell? ⟨w.heap.size, 3, none⟩ = some (.int .i64 0) := (hb.cell _).trans rfl
    have f3 := hb.frozen 3
    have x4 : w1.cell? ⟨w.heap.size, 4, none⟩ = some (.int .i64 0) := (hb.cell _).trans rfl
    have f4 := hb.frozen 4
    clear hc1 hb
    go_wp2
    refine bodyPost_ret (v := .tuple #[pval zPg, .bool false]) (by simp [results, Try.results51, go_sem, zPg, *]) rfl ?_
    rw [readPage_no fun hh => HD.out hh.1]
    exact ⟨rfl, chg5 HCC.out (.inr (Nat.le_refl _))⟩
  have h2 := hd.1.2
  have HD := Lib.hid hd
  clear hd
  go_enter Try.func51, Try.ntmps51
  go_wp2_with fail
  refine (iDeviceValid_t _ A c D _ HR.out HD.out).mono ?_
  rintro e w1 ⟨rfl, hc1⟩
  have HCC := Lib.hid (HC.out.trans hc1)
  have hb := HB.out.chg hc1 (fun x => x)
  have HRR := Lib.hid (HR.out.new hc1)
  have x0 : w1.cell? ⟨w.heap.size, 0, none⟩ = some (.bool false) := (hb.cell _).trans rfl
  have f0 := hb.frozen 0
  have x1 : w1.cell? ⟨w.heap.size, 1, none⟩ = some (.int .i64 0) := (hb.cell _).trans rfl
  have f1 := hb.frozen 1
  have x2 : w1.cell? ⟨w.heap.size, 2, none⟩ = some (.int .i64 0) := (hb.cell _).trans rfl
  have f2 := hb.frozen 2
  have x3 : w1.cell? ⟨w.heap.size, 3, none⟩ = some (.int .i64 0) := (hb.cell _).trans rfl
  have f3 := hb.frozen 3
  have x4 : w1.cell? ⟨w.heap.size, 4, none⟩ = some (.int .i64 0) := (hb.cell _).trans rfl
  have f4 := hb.frozen 4
  have HB2 := Lib.hid hb
  clear hc1 hb
  by_cases hn0 : 0 ≤ n
  case neg =>
    have HN := Lib.hid hn0
    go_wp2
    refine bodyPost_ret (v := .tuple #[pval zPg, .bool false]) (by simp [results, Try.results51, go_sem, zPg, *]) rfl ?_
    rw [readPage_no fun hh => by have := HN.out; have := hh.2.1; omega]
    exact ⟨rfl, chg5 HCC.out (.inr (Nat.le_refl _))⟩
  by_cases hn1 : n < 4 * (D.length : Int)
  case neg =>
    have HN := Lib.hid hn1
    have hge : (D.length : Int) * 4 ≤ n := by omega
    clear hn1
    go_wp2
    refine bodyPost_ret (v := .tuple #[pval zPg, .bool false]) (by simp [results, Try.results51, go_sem, zPg, *]) rfl ?_
    rw [readPage_no fun hh => by have := HN.out; have := hh.2.2; omega]
    exact ⟨rfl, chg5 HCC.out (.inr (Nat.le_refl _))⟩
  obtain ⟨k, rfl⟩ := Int.eq_ofNat_of_zero_le hn0
  have hk : k < 4 * D.length := by omega
  have HP := Lib.hid (readPage_yes HD.out hk)
  obtain ⟨q, r, bb, o, b2, o2, c2, hq, hr, hql, hr4, rfl, hf, c1, hf2, d0, d1, d2, d3, d4⟩ := dev_page HRR.out HD.out hk
  have hi1 : (k : Int) < (D.length : Int) * 4 := by omega
  have hi2 : (k : Int) < 48 := by omega
  have hq0 : (0 : Int) ≤ (q : Int) := Int.natCast_nonneg _
  have hq1 : (q : Int) < (D.length : Int) := by omega
  have hr0 : (0 : Int) ≤ (r : Int) := Int.natCast_nonneg _
  have hr1 : (r : Int) < 4 := by omega
  have hne1 : w.heap.size ≠ w1.heap.size := Nat.ne_of_lt HB2.out.lt
  have hne2 : w1.heap.size ≠ w.heap.size := Ne.symm hne1
  have HB2 := Lib.hid ((HB2.out).chg ((Chg.refl NoB w1).alloc (pbox (pgAt D k))) (fun x => x))
  have HP2 := Lib.hid (Blk.new w1 60 #[.bool (pgAt D k).full, .int .i64 (pgAt D k).file, .int .i64 (pgAt D k).place, .int .i64 (pgAt D k).value, .int .i64 (pgAt D k).stamp])
  have HC2 := Lib.hid (HCC.out.alloc (pbox (pgAt D k)))
  clear hn1
  go_wp2
  obtain ⟨w2, hw2⟩ : ∃ w2, w1.alloc (.cells #[.bool (pgAt D k).full, .int .i64 (pgAt D k).file, .int .i64 (pgAt D k).place, .int .i64 (pgAt D k).value, .int .i64 (pgAt D k).stamp] 60) = w2 := ⟨_, rfl⟩
  have hb2 := HB2.out
  have hp2 := HP2.out
  have hc2 := HC2.out
  rw [hw2] at hb2 hp2 hc2 ⊢
  have HC3 := Lib.hid hc2
  clear d0 d1 d2 d3 d4 x0 x1 x2 x3 x4 f0 f1 f2 f3 f4 c1 HB2 HP2 HC2 hw2 hc2
  have x0 : w2.cell? ⟨w.heap.size, 0, none⟩ = some (.bool false) := (hb2.cell _).trans rfl
  have f0 := hb2.frozen 0
  have x1 : w2.cell? ⟨w.heap.size, 1, none⟩ = some (.int .i64 0) := (hb2.cell _).trans rfl
  have f1 := hb2.frozen 1
  have x2 : w2.cell? ⟨w.heap.size, 2, none⟩ = some (.int .i64 0) := (hb2.cell _).trans rfl
  have f2 := hb2.frozen 2
  have x3 : w2.cell? ⟨w.heap.size, 3, none⟩ = some (.int .i64 0) := (hb2.cell _).trans rfl
  have f3 := hb2.frozen 3
  have x4 : w2.cell? ⟨w.heap.size, 4, none⟩ = some (.int .i64 0) := (hb2.cell _).trans rfl
  have f4 := hb2.frozen 4
  have y0 : w2.cell? ⟨w1.heap.size, 0, none⟩ = some (.bool (pgAt D k).full) := (hp2.cell _).trans rfl
  have y1 : w2.cell? ⟨w1.heap.size, 1, none⟩ = some (.int .i64 (pgAt D k).file) := (hp2.cell _).trans rfl
  have y2 : w2.cell? ⟨w1.heap.size, 2, none⟩ = some (.int .i64 (pgAt D k).place) := (hp2.cell _).trans rfl
  have y3 : w2.cell? ⟨w1.heap.size, 3, none⟩ = some (.int .i64 (pgAt D k).value) := (hp2.cell _).trans rfl
  have y4 : w2.cell? ⟨w1.heap.size, 4, none⟩ = some (.int .i64 (pgAt D k).stamp) := (hp2.cell _).trans rfl
  clear hb2 hp2
  go_region
  go_wp2
  refine bodyPost_ret (v := .tuple #[pval (pgAt D k), .bool (pgAt D k).full]) (by simp [results, Try.results51, go_sem, *]) rfl ?_
  rw [HP.out]
  exact ⟨rfl, (chg5 HC3.out (.inr (Nat.le_refl _))).drew⟩
set_option maxRecDepth 100000 in
set_option maxHeartbeats 1000000 in
theorem sReadPage_any (F : Nat → Prop) (A : Option Addr) (c : Nat) (D : List Bk) (n : Int) (w : World) (h : DevR F w A D) (hs : Small D) :
    Calls Try.prog 65 #[.slice A D.length c, .int .i64 n] w fun e w' => e = .returned (.tuple #[pval (readPage D n), .bool (readPage D n).full]) ∧ Chg NoB w w' := by
  have hca := (Chg.refl NoB w).alloc (.cells #[.bool false, .int .i64 0, .int .i64 0, .int .i64 0, .int .i64 0] 60)
  have HB := Lib.hid (Blk.new w 60 #[.bool false, .int .i64 0, .int .i64 0, .int .i64 0, .int .i64 0])
  have HC := Lib.hid hca
  have HR := Lib.hid (h.new hca)
  clear hca h
  by_cases hd : DvOk D
  case neg =>
    have HD := Lib.hid hd
    clear hd
    go_enter Try.func65, Try.ntmps65
    go_wp2_with fail
    refine (sDeviceValid_f _ A c D _ HR.out hs HD.out).mono ?_
    rintro e w1 ⟨rfl, hc1⟩
    have HCC := Lib.hid (HC.out.trans hc1)
    have hb := HB.out.chg hc1 (fun x => x)
    have x0 : w1.cell? ⟨w.heap.size, 0, none⟩ = some (.bool false) := (hb.cell _).trans rfl
    have f0 := hb.frozen 0
    have x1 : w1.cell? ⟨w.heap.size, 1, none⟩ = some (.int .i64 0) := (hb.cell _).trans rfl
    have f1 := hb.frozen 1
    have x2 : w1.cell? ⟨w.heap.size, 2, none⟩ = some (.int .i64 0) := (hb.cell _).trans rfl
    have f2 := hb.frozen 2
    have x3 : w1.cell? ⟨w.heap.size, 3, none⟩ = some (.int .i64 0) := (hb.cell _).trans rfl
    have f3 := hb.frozen 3
    have x4 : w1.cell? ⟨w.heap.size, 4, none⟩ = some (.int .i64 0) := (hb.cell _).trans rfl
    have f4 := hb.frozen 4
    clear hc1 hb
    go_wp2
    refine bodyPost_ret (v := .tuple #[pval zPg, .bool false]) (by simp [results, Try.results65, go_sem, zPg, *]) rfl ?_
    rw [readPage_no fun hh => HD.out hh.1]
    exact ⟨rfl, chg5 HCC.out (.inr (Nat.le_refl _))⟩
  have h2 := hd.1.2
  have HD := Lib.hid hd
  clear hd
  go_enter Try.func65, Try.ntmps65
  go_wp2_with fail
  refine (sDeviceValid_t _ A c D _ HR.out HD.out).mono ?_
  rintro e w1 ⟨rfl, hc1⟩
  have HCC := Lib.hid (HC.out.trans hc1)
  have hb := HB.out.chg hc1 (fun x => x)
  have HRR := Lib.hid (HR.out.new hc1)
  have x0 : w1.cell? ⟨w.heap.size, 0, none⟩ = some (.bool false) := (hb.cell _).trans rfl
  have f0 := hb.frozen 0
  have x1 : w1.cell? ⟨w.heap.size, 1, none⟩ = some (.int .i64 0) := (hb.cell _).trans rfl
  have f1 := hb.frozen 1
  have x2 : w1.cell? ⟨w.heap.size, 2, none⟩ = some (.int .i64 0) := (hb.cell _).trans rfl
  have f2 := hb.frozen 2
  have x3 : w1.cell? ⟨w.heap.size, 3, none⟩ = some (.int .i64 0) := (hb.cell _).trans rfl
  have f3 := hb.frozen 3
  have x4 : w1.cell? ⟨w.heap.size, 4, none⟩ = some (.int .i64 0) := (hb.cell _).trans rfl
  have f4 := hb.frozen 4
  have HB2 := Lib.hid hb
  clear hc1 hb
  go_wp2_with fail
  by_cases hn : 0 ≤ n ∧ n ≤ 4 * (D.length : Int) - 1
  case neg =>
    have HN := Lib.hid hn
    clear hn
    refine (l1In_f _ _ _ _ HN.out).mono ?_
    rintro e w2 ⟨rfl, rfl⟩
    go_wp2
    refine bodyPost_ret (v := .tuple #[pval zPg, .bool false]) (by simp [results, Try.results65, go_sem, zPg, *]) rfl ?_
    rw [readPage_no fun hh => HN.out ⟨hh.2.1, by have := hh.2.2; omega⟩]
    exact ⟨rfl, chg5 HCC.out (.inr (Nat.le_refl _))⟩
  have HN := Lib.hid hn
  refine (l1In_t _ _ _ _ HN.out).mono ?_
  rintro e w2 ⟨rfl, rfl⟩
  obtain ⟨hn0, hn1⟩ := hn
  obtain ⟨k, rfl⟩ := Int.eq_ofNat_of_zero_le hn0
  have hk : k < 4 * D.length := by omega
  have HP := Lib.hid (readPage_yes HD.out hk)
  obtain ⟨q, r, bb, o, b2, o2, c2, hq, hr, hql, hr4, rfl, hf, c1, hf2, d0, d1, d2, d3, d4⟩ := dev_page HRR.out HD.out hk
  have hi1 : (k : Int) < (D.length : Int) * 4 := by omega
  have hi2 : (k : Int) < 48 := by omega
  have hq0 : (0 : Int) ≤ (q : Int) := Int.natCast_nonneg _
  have hq1 : (q : Int) < (D.length : Int) := by omega
  have hr0 : (0 : Int) ≤ (r : Int) := Int.natCast_nonneg _
  have hr1 : (r : Int) < 4 := by omega
  have hne1 : w.heap.size ≠ w1.heap.size := Nat.ne_of_lt HB2.out.lt
  have hne2 : w1.heap.size ≠ w.heap.size := Ne.symm hne1
  have HB2 := Lib.hid ((HB2.out).chg ((Chg.refl NoB w1).alloc (pbox (pgAt D k))) (fun x => x))
  have HP2 := Lib.hid (Blk.new w1 60 #[.bool (pgAt D k).full, .int .i64 (pgAt D k).file, .int .i64 (pgAt D k).place, .int .i64 (pgAt D k).value, .int .i64 (pgAt D k).stamp])
  have HC2 := Lib.hid (HCC.out.alloc (pbox (pgAt D k)))
  clear hn1
  go_wp2
  obtain ⟨w2, hw2⟩ : ∃ w2, w1.alloc (.cells #[.bool (pgAt D k).full, .int .i64 (pgAt D k).file, .int .i64 (pgAt D k).place, .int .i64 (pgAt D k).value, .int .i64 (pgAt D k).stamp] 60) = w2 := ⟨_, rfl⟩
  have hb2 := HB2.out
  have hp2 := HP2.out
  have hc2 := HC2.out
  rw [hw2] at hb2 hp2 hc2 ⊢
  have HC3 := Lib.hid hc2
  clear d0 d1 d2 d3 d4 x0 x1 x2 x3 x4 f0 f1 f2 f3 f4 c1 HB2 HP2 HC2 hw2 hc2
  have x0 : w2.cell? ⟨w.heap.size, 0, none⟩ = some (.bool false) := (hb2.cell _).trans rfl
  have f0 := hb2.frozen 0
  have x1 : w2.cell? ⟨w.heap.size, 1, none⟩ = some (.int .i64 0) := (hb2.cell _).trans rfl
  have f1 := hb2.frozen 1
  have x2 : w2.cell? ⟨w.heap.size, 2, none⟩ = some (.int .i64 0) := (hb2.cell _).trans rfl
  have f2 := hb2.frozen 2
  have x3 : w2.cell? ⟨w.heap.size, 3, none⟩ = some (.int .i64 0) := (hb2.cell _).trans rfl
  have f3 := hb2.frozen 3
  have x4 : w2.cell? ⟨w.heap.size, 4, none⟩ = some (.int .i64 0) := (hb2.cell _).trans rfl
  have f4 := hb2.frozen 4
  have y0 : w2.cell? ⟨w1.heap.size, 0, none⟩ = some (.bool (pgAt D k).full) := (hp2.cell _).trans rfl
  have y1 : w2.cell? ⟨w1.heap.size, 1, none⟩ = some (.int .i64 (pgAt D k).file) := (hp2.cell _).trans rfl
  have y2 : w2.cell? ⟨w1.heap.size, 2, none⟩ = some (.int .i64 (pgAt D k).place) := (hp2.cell _).trans rfl
  have y3 : w2.cell? ⟨w1.heap.size, 3, none⟩ = some (.int .i64 (pgAt D k).value) := (hp2.cell _).trans rfl
  have y4 : w2.cell? ⟨w1.heap.size, 4, none⟩ = some (.int .i64 (pgAt D k).stamp) := (hp2.cell _).trans rfl
  clear hb2 hp2
  go_region
  go_wp2
  refine bodyPost_ret (v := .tuple #[pval (pgAt D k), .bool (pgAt D k).full]) (by simp [results, Try.results65, go_sem, *]) rfl ?_
  rw [HP.out]
  exact ⟨rfl, (chg5 HC3.out (.inr (Nat.le_refl _))).drew⟩
end Go.Proofs.Ytenbbkmbnpdfaaa
