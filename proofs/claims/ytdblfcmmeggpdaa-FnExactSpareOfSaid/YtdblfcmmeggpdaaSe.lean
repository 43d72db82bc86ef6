/- The law FnExactSpareOf: the walk. -/
import Derived.Test.YtdblfcmmeggpdaaSd
import Derived.Deep.RegionHeld3
namespace Go.Proofs.Ytdblfcmmeggpdaa
open Go.RowKit
set_option maxRecDepth 100000 in
set_option maxHeartbeats 2000000 in
theorem FnExactSpareOf_any (v : Value) (x : Sp) (n : Int) (w : World) (hx : SpIn w v x) :
    Calls Try.prog 13 #[v, .int .i64 n] w fun e w' => e = .returned (.bool true) ∧ Chg NoB w w' := by
  obtain ⟨b, e, A, c, xs⟩ := x
  obtain ⟨rfl, h, hc, hm⟩ := hx
  simp only at h hc hm
  have hm' : c ≤ 9223372036854775807 := by unfold maxLen at hm; omega
  have HC0 := Lib.hid ((Chg.refl NoB w).alloc (.cells #[.int .i64 b, .int .i64 e, .slice A xs.length c] 39))
  have HB0 := Lib.hid (Blk.new w 39 #[.int .i64 b, .int .i64 e, .slice A xs.length c])
  go_enter Try.func13, Try.ntmps13
  go_wp2_with fail
  refine (szSpares_any b e A xs.length c _ (by omega)).mono ?_
  rintro e' w1 ⟨s, rfl, hs, hc1⟩
  have z0 : w1.cell? ⟨w.heap.size, 0, none⟩ = some (.int .i64 b) := by rw [(HB0.out.chg hc1 (fun x => x)).cell]; rfl
  have z1 : w1.cell? ⟨w.heap.size, 1, none⟩ = some (.int .i64 e) := by rw [(HB0.out.chg hc1 (fun x => x)).cell]; rfl
  have z2 : w1.cell? ⟨w.heap.size, 2, none⟩ = some (.slice A xs.length c) := by rw [(HB0.out.chg hc1 (fun x => x)).cell]; rfl
  have HC1 := Lib.hid (HC0.out.trans hc1)
  have HB1 := Lib.hid (HB0.out.chg hc1 (fun x => x))
  by_cases hl : 1048576 < xs.length
  · have hs0 : s < 0 := hs.2 hl
    clear hs
    go_wp2
    go_ret
    exact ⟨rfl, HC1.out⟩
  have hl' : xs.length ≤ 1048576 := by omega
  have hs0 : ¬ s < 0 := fun hh => hl (hs.1 hh)
  clear hs hc1
  go_wp2_with fail
  refine (toSpares_any _ b e A c xs _ (h.chg HC1.out fun _ _ x => x) hl').mono ?_
  rintro e' w2 ⟨g2, rfl, hg2, hc2, hb2⟩
  go_wp2_with fail
  refine (sSpareOf_any _ _ _ b e xs n _ hb2.rd (Nat.le_refl _) (by omega)).mono ?_
  rintro e' w3 ⟨r, rfl, hr, hrn, hc3⟩
  have hB3 := HB1.out.chg (hc2.trans hc3) (fun x => x)
  have HC3 := Lib.hid ((HC1.out.trans hc2).trans hc3)
  have z0 : w3.cell? ⟨w.heap.size, 0, none⟩ = some (.int .i64 b) := by rw [hB3.cell]; rfl
  have z1 : w3.cell? ⟨w.heap.size, 1, none⟩ = some (.int .i64 e) := by rw [hB3.cell]; rfl
  have z2 : w3.cell? ⟨w.heap.size, 2, none⟩ = some (.slice A xs.length c) := by rw [hB3.cell]; rfl
  have HB3 := Lib.hid hB3
  have HR := Lib.hid hr
  have HRN := Lib.hid hrn
  clear hr hrn hc2 hc3 hb2 hB3 hg2
  go_wp2_with fail
  refine (toSpares_any _ b e A c xs _ (h.chg HC3.out fun _ _ x => x) hl').mono ?_
  rintro e' w4 ⟨g4, rfl, hg4, hc4, hb4⟩
  have hB4 := (HB3.out.chg hc4 (fun x => x))
  have HB4 := Lib.hid (hB4.chg ((Chg.refl NoB w4).alloc (.cells #[.int .i64 b, .int .i64 e, .slice (some ⟨g4, 0, none⟩) xs.length xs.length] 42)) (fun x => x))
  have HG4 := Lib.hid (hb4.chg ((Chg.refl NoB w4).alloc (.cells #[.int .i64 b, .int .i64 e, .slice (some ⟨g4, 0, none⟩) xs.length xs.length] 42)) (fun x => x))
  have HN4 := Lib.hid (Blk.new w4 42 #[.int .i64 b, .int .i64 e, .slice (some ⟨g4, 0, none⟩) xs.length xs.length])
  have HC4 := Lib.hid ((HC3.out.trans hc4).alloc (.cells #[.int .i64 b, .int .i64 e, .slice (some ⟨g4, 0, none⟩) xs.length xs.length] 42))
  clear hB4 hb4 hc4 hg4
  go_wp2_with fail
  refine (iSpareOf_any _ _ _ b e xs n _ HG4.out.rd (Nat.le_refl _) (by omega)).mono ?_
  rintro e' w5 ⟨r', rfl, hr', hrn', hc5⟩
  obtain rfl : r = r' := by
    by_cases hok : spArgs b e xs n
    · exact (HR.out hok).1.det (HR.out hok).2 (hr' hok).1 (hr' hok).2
    · rw [HRN.out hok, hrn' hok]
  have hrr : (r != r) = false := by simp
  have hB5 := HB4.out.chg hc5 (fun x => x)
  have hN5 := HN4.out.chg hc5 (fun x => x)
  have z0 : w5.cell? ⟨w.heap.size, 0, none⟩ = some (.int .i64 b) := by rw [hB5.cell]; rfl
  have z1 : w5.cell? ⟨w.heap.size, 1, none⟩ = some (.int .i64 e) := by rw [hB5.cell]; rfl
  have z2 : w5.cell? ⟨w.heap.size, 2, none⟩ = some (.slice A xs.length c) := by rw [hB5.cell]; rfl
  have n0 : w5.cell? ⟨w4.heap.size, 0, none⟩ = some (.int .i64 b) := by rw [hN5.cell]; rfl
  have n1 : w5.cell? ⟨w4.heap.size, 1, none⟩ = some (.int .i64 e) := by rw [hN5.cell]; rfl
  have n2 : w5.cell? ⟨w4.heap.size, 2, none⟩ = some (.slice (some ⟨g4, 0, none⟩) xs.length xs.length) := by rw [hN5.cell]; rfl
  have HC5 := Lib.hid (HC4.out.trans hc5)
  have HG5 := Lib.hid (HG4.out.chg hc5 (fun x => x))
  clear hr' hrn' hc5 hB5 hN5
  have H5 := Lib.hid h
  have hcs := Lib.hid (Chg.refl NoB w5)
  clear h
  go_wp2_with fail
  go_region_held3 (fun w' => w'.cell? ⟨w.heap.size, 0, none⟩ = some (.int .i64 b) ∧ w'.cell? ⟨w.heap.size, 1, none⟩ = some (.int .i64 e) ∧ w'.cell? ⟨w.heap.size, 2, none⟩ = some (.slice A xs.length c) ∧ w'.cell? ⟨w4.heap.size, 0, none⟩ = some (.int .i64 b) ∧ w'.cell? ⟨w4.heap.size, 1, none⟩ = some (.int .i64 e) ∧ w'.cell? ⟨w4.heap.size, 2, none⟩ = some (.slice (some ⟨g4, 0, none⟩) xs.length xs.length))
    (first | go_keep | exact ⟨hcc.cell (by assumption) (fun x => x), hcc.cell (by assumption) (fun x => x), hcc.cell (by assumption) (fun x => x), hcc.cell (by assumption) (fun x => x), hcc.cell (by assumption) (fun x => x), hcc.cell (by assumption) (fun x => x)⟩ | exact ⟨(HK.out.trans hcc).cell (by assumption) (fun x => x), (HK.out.trans hcc).cell (by assumption) (fun x => x), (HK.out.trans hcc).cell (by assumption) (fun x => x), (HK.out.trans hcc).cell (by assumption) (fun x => x), (HK.out.trans hcc).cell (by assumption) (fun x => x), (HK.out.trans hcc).cell (by assumption) (fun x => x)⟩)
    (first
      | (go_at_call 32; refine (toSpares_any _ b e A c xs _ (H5.out.chg (HC5.out.drew) fun _ _ x => x) hl').mono ?_; rintro e' w6 ⟨g6, rfl, hg6, hcc, hb6⟩; have HK := Lib.hid hcc; have HB6 := Lib.hid hb6)
      | (go_at_call 34; refine (eqSpares_t _ _ b e _ _ _ _ xs _ ((HG5.out.chg ((Chg.refl NoB w5).drew) (fun x => x)).chg HK.out (fun x => x)).rd HB6.out.rd (by omega)).mono ?_; rintro e' w7 ⟨rfl, hcc⟩))
  all_goals
    go_wp2
    go_ret
    exact ⟨rfl, (HC5.out.drew.trans HK.out).trans hcc⟩
end Go.Proofs.Ytdblfcmmeggpdaa
