/- Draws of pages and blocks. -/
import Derived.Test.YtenbbkmbnpdfaaaVz
import Derived.Test.YtenbbkmbnpdfaaaDa
namespace Go.Proofs.Ytenbbkmbnpdfaaa
open Go.RowKit
def PgDrawn (g N : Nat) (w : World) (e : Ending) (w' : World) : Prop := ∃ p, e = .returned (pval p) ∧ Chg (· = g) w w' ∧ Rdr w' g N
def FullDrawn (g N : Nat) (w : World) (e : Ending) (w' : World) : Prop := ∃ p, e = .returned (pval p) ∧ p.full = true ∧ PgOk p ∧ Chg (· = g) w w' ∧ Rdr w' g N
set_option maxRecDepth 100000 in
set_option maxHeartbeats 2000000 in
theorem l20Full_any (g N : Nat) (n : Int) (w : World) (h : Rdr w g N) (hN : N ≤ 1000000) (hn : 1 ≤ n ∧ n ≤ 1000000) :
    Calls Try.prog 88 #[.pointer (some ⟨g, 0, none⟩), .int .i64 n] w (FullDrawn g (N + 3) w) := by
  have hg := h.lt
  have hca := (Chg.refl NoB w).alloc (.cells #[.bool false, .int .i64 0, .int .i64 0, .int .i64 0, .int .i64 0] 60)
  have HB := Lib.hid (Blk.new w 60 #[.bool false, .int .i64 0, .int .i64 0, .int .i64 0, .int .i64 0])
  have HC := Lib.hid (hca.mono (G := (· = g)) (fun _ _ x => x.elim))
  have hr0 := h.alloc (.cells #[.bool false, .int .i64 0, .int .i64 0, .int .i64 0, .int .i64 0] 60)
  have HN := Lib.hid hn
  clear hca h hn
  go_enter Try.func88, Try.ntmps88
  go_wp2_with fail
  refine (pick_any g N 4 _ hr0 (by omega) (by omega) (by omega)).mono ?_
  rintro e w1 ⟨k1, rfl, hk1, hc1, hr1⟩
  have HC1 := Lib.hid (HC.out.trans hc1)
  have HB1 := Lib.hid (HB.out.chg hc1 (by omega))
  clear hc1 hr0
  go_wp2_with fail
  refine (pick_any g _ 4 _ hr1 (by omega) (by omega) (by omega)).mono ?_
  rintro e w2 ⟨k2, rfl, hk2, hc2, hr2⟩
  have HC2 := Lib.hid (HC1.out.trans hc2)
  have HB2 := Lib.hid (HB1.out.chg hc2 (by omega))
  clear hc2 hr1
  go_wp2_with fail
  refine (pick_any g _ 100 _ hr2 (by omega) (by omega) (by omega)).mono ?_
  rintro e w3 ⟨k3, rfl, hk3, hc3, hr3⟩
  have HC3 := Lib.hid (HC2.out.trans hc3)
  have hb3 := HB2.out.chg hc3 (by omega)
  have x0 : w3.cell? ⟨w.heap.size, 0, none⟩ = some (.bool false) := (hb3.cell _).trans rfl
  have f0 := hb3.frozen 0
  have x1 : w3.cell? ⟨w.heap.size, 1, none⟩ = some (.int .i64 0) := (hb3.cell _).trans rfl
  have f1 := hb3.frozen 1
  have x2 : w3.cell? ⟨w.heap.size, 2, none⟩ = some (.int .i64 0) := (hb3.cell _).trans rfl
  have f2 := hb3.frozen 2
  have x3 : w3.cell? ⟨w.heap.size, 3, none⟩ = some (.int .i64 0) := (hb3.cell _).trans rfl
  have f3 := hb3.frozen 3
  have x4 : w3.cell? ⟨w.heap.size, 4, none⟩ = some (.int .i64 0) := (hb3.cell _).trans rfl
  have f4 := hb3.frozen 4
  have HR3 := Lib.hid hr3
  have HB3 := Lib.hid hb3
  clear hc3 hr2 hr3 hb3
  go_wp2_with fail
  (try simp only [Exit.inBlock, Exit.then])
  refine bodyPost_ret (v := .agg #[.bool true, .int .i64 k1, .int .i64 k2, .int .i64 k3, .int .i64 n]) (by simp [results, Try.results88, go_sem, *]) rfl ?_
  have hcs := chg5 (F := (· = w.heap.size)) (a := .bool true) (b := .int .i64 k1) (c := .int .i64 k2) (d := .int .i64 k3) (e := .int .i64 n) (Chg.refl (· = w.heap.size) w3) (.inl rfl)
  have hnn := HN.out
  exact ⟨⟨true, k1, k2, k3, n⟩, rfl, rfl, ⟨fun hh => (by cases hh), fun _ => by show (0 ≤ (k1 : Int) ∧ (k1 : Int) ≤ 7) ∧ (0 ≤ (k2 : Int) ∧ (k2 : Int) ≤ 5) ∧ (0 ≤ (k3 : Int) ∧ (k3 : Int) ≤ 9999) ∧ (1 ≤ n ∧ n ≤ 1000000); omega⟩, HC3.out.trans' hcs (fun i hi => .inr (by rw [show i = w.heap.size from hi]; exact Nat.le_refl _)), HR3.out.chgBox hcs (by omega) HB3.out (by simp)⟩
set_option maxRecDepth 100000 in
set_option maxHeartbeats 4000000 in
theorem l20Page_any (g N : Nat) (n : Int) (w : World) (h : Rdr w g N) (hN : N ≤ 1000000) (hn0 : 0 ≤ n) (hn : n ≤ 1000000) :
    Calls Try.prog 103 #[.pointer (some ⟨g, 0, none⟩), .int .i64 n] w (PgDrawn g (N + 7) w) := by
  have hg := h.lt
  have hca := (Chg.refl NoB w).alloc (.cells #[.bool false, .int .i64 0, .int .i64 0, .int .i64 0, .int .i64 0] 60)
  have HB := Lib.hid (Blk.new w 60 #[.bool false, .int .i64 0, .int .i64 0, .int .i64 0, .int .i64 0])
  have HC := Lib.hid (hca.mono (G := (· = g)) (fun _ _ x => x.elim))
  have hr0 := h.alloc (.cells #[.bool false, .int .i64 0, .int .i64 0, .int .i64 0, .int .i64 0] 60)
  clear hca h
  have HEND : ∀ wq p M, Hid (Chg (· = g) w wq) → Hid (Blk wq w.heap.size 60 #[.bool false, .int .i64 0, .int .i64 0, .int .i64 0, .int .i64 0]) → Hid (Rdr wq g M) → M ≤ N + 7 → Hid (PgDrawn g (N + 7) w (.returned (pval p)) (((((wq.setCell ⟨w.heap.size, 0, none⟩ (.bool p.full)).setCell ⟨w.heap.size, 1, none⟩ (.int .i64 p.file)).setCell ⟨w.heap.size, 2, none⟩ (.int .i64 p.place)).setCell ⟨w.heap.size, 3, none⟩ (.int .i64 p.value)).setCell ⟨w.heap.size, 4, none⟩ (.int .i64 p.stamp))) := by
    intro wq p M h1 h2 h3 hM
    have hcs := chg5 (F := (· = w.heap.size)) (a := .bool p.full) (b := .int .i64 p.file) (c := .int .i64 p.place) (d := .int .i64 p.value) (e := .int .i64 p.stamp) (Chg.refl (· = w.heap.size) wq) (.inl rfl)
    exact Lib.hid ⟨p, rfl, h1.out.trans' hcs (fun i hi => .inr (by rw [show i = w.heap.size from hi]; exact Nat.le_refl _)), (h3.out.chgBox hcs (by omega) h2.out (by simp)).more hM⟩
  go_enter Try.func103, Try.ntmps103
  go_wp2_with fail
  refine (odd_any g N n _ hr0 (by omega) hn0 hn).mono ?_
  rintro e w1 ⟨b, rfl, -, hc1, hr1⟩
  have HC1 := Lib.hid (HC.out.trans hc1)
  have HB1 := Lib.hid (HB.out.chg hc1 (by omega))
  have hs1 := HB1.out.lt
  clear hc1 hr0
  cases b
  case true =>
    go_wp2_with fail
    have hcl := (Chg.refl NoB w1).alloc (.cells #[.bool false, .int .i64 0, .int .i64 0, .int .i64 1, .int .i64 0, .bool true, .int .i64 0, .int .i64 0, .int .i64 0, .int .i64 0, .bool true, .int .i64 8, .int .i64 0, .int .i64 0, .int .i64 1, .bool true, .int .i64 0, .int .i64 (-1), .int .i64 0, .int .i64 1, .bool true, .int .i64 0, .int .i64 0, .int .i64 10000, .int .i64 1, .bool true, .int .i64 0, .int .i64 0, .int .i64 0, .int .i64 1000001] 60)
    have hlb := Blk.new w1 60 #[.bool false, .int .i64 0, .int .i64 0, .int .i64 1, .int .i64 0, .bool true, .int .i64 0, .int .i64 0, .int .i64 0, .int .i64 0, .bool true, .int .i64 8, .int .i64 0, .int .i64 0, .int .i64 1, .bool true, .int .i64 0, .int .i64 (-1), .int .i64 0, .int .i64 1, .bool true, .int .i64 0, .int .i64 0, .int .i64 10000, .int .i64 1, .bool true, .int .i64 0, .int .i64 0, .int .i64 0, .int .i64 1000001]
    have hr1l := hr1.alloc (.cells #[.bool false, .int .i64 0, .int .i64 0, .int .i64 1, .int .i64 0, .bool true, .int .i64 0, .int .i64 0, .int .i64 0, .int .i64 0, .bool true, .int .i64 8, .int .i64 0, .int .i64 0, .int .i64 1, .bool true, .int .i64 0, .int .i64 (-1), .int .i64 0, .int .i64 1, .bool true, .int .i64 0, .int .i64 0, .int .i64 10000, .int .i64 1, .bool true, .int .i64 0, .int .i64 0, .int .i64 0, .int .i64 1000001] 60)
    refine (pick_any g _ 6 _ hr1l (by omega) (by omega) (by omega)).mono ?_
    rintro e w2 ⟨k, rfl, hk, hc2, hr2⟩
    have hgl : g < w1.heap.size := hr1.lt
    have hlb2 := hlb.chg hc2 (by omega)
    have HC2 := Lib.hid ((HC1.out.trans' hcl (fun _ x => x.elim)).trans hc2)
    have HB2 := Lib.hid ((HB1.out.chg hcl (fun x => x)).chg hc2 (by omega))
    have hb2 := HB2.out
    have HR2 := Lib.hid hr2
    clear hcl hlb hc2 hr1 hr2 hr1l
    rcases (show k = 0 ∨ k = 1 ∨ k = 2 ∨ k = 3 ∨ k = 4 ∨ k = 5 by omega) with rfl | rfl | rfl | rfl | rfl | rfl
    · have l0 : w2.cell? ⟨w1.heap.size, 0, none⟩ = some (.bool false) := (hlb2.cell _).trans rfl
      have l1 : w2.cell? ⟨w1.heap.size, 1, none⟩ = some (.int .i64 0) := (hlb2.cell _).trans rfl
      have l2 : w2.cell? ⟨w1.heap.size, 2, none⟩ = some (.int .i64 0) := (hlb2.cell _).trans rfl
      have l3 : w2.cell? ⟨w1.heap.size, 3, none⟩ = some (.int .i64 1) := (hlb2.cell _).trans rfl
      have l4 : w2.cell? ⟨w1.heap.size, 4, none⟩ = some (.int .i64 0) := (hlb2.cell _).trans rfl
      have x0 : w2.cell? ⟨w.heap.size, 0, none⟩ = some (.bool false) := (hb2.cell _).trans rfl
      have f0 := hb2.frozen 0
      have x1 : w2.cell? ⟨w.heap.size, 1, none⟩ = some (.int .i64 0) := (hb2.cell _).trans rfl
      have f1 := hb2.frozen 1
      have x2 : w2.cell? ⟨w.heap.size, 2, none⟩ = some (.int .i64 0) := (hb2.cell _).trans rfl
      have f2 := hb2.frozen 2
      have x3 : w2.cell? ⟨w.heap.size, 3, none⟩ = some (.int .i64 0) := (hb2.cell _).trans rfl
      have f3 := hb2.frozen 3
      have x4 : w2.cell? ⟨w.heap.size, 4, none⟩ = some (.int .i64 0) := (hb2.cell _).trans rfl
      have f4 := hb2.frozen 4
      have hne : w1.heap.size ≠ w.heap.size := by omega
      have hne2 : w.heap.size ≠ w1.heap.size := by omega
      clear hb2 hlb2
      go_wp2_with fail
      (try simp only [Exit.inBlock, Exit.then])
      refine bodyPost_ret (v := .agg #[.bool false, .int .i64 0, .int .i64 0, .int .i64 1, .int .i64 0]) (by simp [results, Try.results103, go_sem, *]) rfl ?_
      exact (HEND w2 ⟨false, 0, 0, 1, 0⟩ _ HC2 HB2 HR2 (by omega)).out
    · have l0 : w2.cell? ⟨w1.heap.size, 5, none⟩ = some (.bool true) := (hlb2.cell _).trans rfl
      have l1 : w2.cell? ⟨w1.heap.size, 6, none⟩ = some (.int .i64 0) := (hlb2.cell _).trans rfl
      have l2 : w2.cell? ⟨w1.heap.size, 7, none⟩ = some (.int .i64 0) := (hlb2.cell _).trans rfl
      have l3 : w2.cell? ⟨w1.heap.size, 8, none⟩ = some (.int .i64 0) := (hlb2.cell _).trans rfl
      have l4 : w2.cell? ⟨w1.heap.size, 9, none⟩ = some (.int .i64 0) := (hlb2.cell _).trans rfl
      have x0 : w2.cell? ⟨w.heap.size, 0, none⟩ = some (.bool false) := (hb2.cell _).trans rfl
      have f0 := hb2.frozen 0
      have x1 : w2.cell? ⟨w.heap.size, 1, none⟩ = some (.int .i64 0) := (hb2.cell _).trans rfl
      have f1 := hb2.frozen 1
      have x2 : w2.cell? ⟨w.heap.size, 2, none⟩ = some (.int .i64 0) := (hb2.cell _).trans rfl
      have f2 := hb2.frozen 2
      have x3 : w2.cell? ⟨w.heap.size, 3, none⟩ = some (.int .i64 0) := (hb2.cell _).trans rfl
      have f3 := hb2.frozen 3
      have x4 : w2.cell? ⟨w.heap.size, 4, none⟩ = some (.int .i64 0) := (hb2.cell _).trans rfl
      have f4 := hb2.frozen 4
      have hne : w1.heap.size ≠ w.heap.size := by omega
      have hne2 : w.heap.size ≠ w1.heap.size := by omega
      clear hb2 hlb2
      go_wp2_with fail
      (try simp only [Exit.inBlock, Exit.then])
      refine bodyPost_ret (v := .agg #[.bool true, .int .i64 0, .int .i64 0, .int .i64 0, .int .i64 0]) (by simp [results, Try.results103, go_sem, *]) rfl ?_
      exact (HEND w2 ⟨true, 0, 0, 0, 0⟩ _ HC2 HB2 HR2 (by omega)).out
    · have l0 : w2.cell? ⟨w1.heap.size, 10, none⟩ = some (.bool true) := (hlb2.cell _).trans rfl
      have l1 : w2.cell? ⟨w1.heap.size, 11, none⟩ = some (.int .i64 8) := (hlb2.cell _).trans rfl
      have l2 : w2.cell? ⟨w1.heap.size, 12, none⟩ = some (.int .i64 0) := (hlb2.cell _).trans rfl
      have l3 : w2.cell? ⟨w1.heap.size, 13, none⟩ = some (.int .i64 0) := (hlb2.cell _).trans rfl
      have l4 : w2.cell? ⟨w1.heap.size, 14, none⟩ = some (.int .i64 1) := (hlb2.cell _).trans rfl
      have x0 : w2.cell? ⟨w.heap.size, 0, none⟩ = some (.bool false) := (hb2.cell _).trans rfl
      have f0 := hb2.frozen 0
      have x1 : w2.cell? ⟨w.heap.size, 1, none⟩ = some (.int .i64 0) := (hb2.cell _).trans rfl
      have f1 := hb2.frozen 1
      have x2 : w2.cell? ⟨w.heap.size, 2, none⟩ = some (.int .i64 0) := (hb2.cell _).trans rfl
      have f2 := hb2.frozen 2
      have x3 : w2.cell? ⟨w.heap.size, 3, none⟩ = some (.int .i64 0) := (hb2.cell _).trans rfl
      have f3 := hb2.frozen 3
      have x4 : w2.cell? ⟨w.heap.size, 4, none⟩ = some (.int .i64 0) := (hb2.cell _).trans rfl
      have f4 := hb2.frozen 4
      have hne : w1.heap.size ≠ w.heap.size := by omega
      have hne2 : w.heap.size ≠ w1.heap.size := by omega
      clear hb2 hlb2
      go_wp2_with fail
      (try simp only [Exit.inBlock, Exit.then])
      refine bodyPost_ret (v := .agg #[.bool true, .int .i64 8, .int .i64 0, .int .i64 0, .int .i64 1]) (by simp [results, Try.results103, go_sem, *]) rfl ?_
      exact (HEND w2 ⟨true, 8, 0, 0, 1⟩ _ HC2 HB2 HR2 (by omega)).out
    · have l0 : w2.cell? ⟨w1.heap.size, 15, none⟩ = some (.bool true) := (hlb2.cell _).trans rfl
      have l1 : w2.cell? ⟨w1.heap.size, 16, none⟩ = some (.int .i64 0) := (hlb2.cell _).trans rfl
      have l2 : w2.cell? ⟨w1.heap.size, 17, none⟩ = some (.int .i64 (-1)) := (hlb2.cell _).trans rfl
      have l3 : w2.cell? ⟨w1.heap.size, 18, none⟩ = some (.int .i64 0) := (hlb2.cell _).trans rfl
      have l4 : w2.cell? ⟨w1.heap.size, 19, none⟩ = some (.int .i64 1) := (hlb2.cell _).trans rfl
      have x0 : w2.cell? ⟨w.heap.size, 0, none⟩ = some (.bool false) := (hb2.cell _).trans rfl
      have f0 := hb2.frozen 0
      have x1 : w2.cell? ⟨w.heap.size, 1, none⟩ = some (.int .i64 0) := (hb2.cell _).trans rfl
      have f1 := hb2.frozen 1
      have x2 : w2.cell? ⟨w.heap.size, 2, none⟩ = some (.int .i64 0) := (hb2.cell _).trans rfl
      have f2 := hb2.frozen 2
      have x3 : w2.cell? ⟨w.heap.size, 3, none⟩ = some (.int .i64 0) := (hb2.cell _).trans rfl
      have f3 := hb2.frozen 3
      have x4 : w2.cell? ⟨w.heap.size, 4, none⟩ = some (.int .i64 0) := (hb2.cell _).trans rfl
      have f4 := hb2.frozen 4
      have hne : w1.heap.size ≠ w.heap.size := by omega
      have hne2 : w.heap.size ≠ w1.heap.size := by omega
      clear hb2 hlb2
      go_wp2_with fail
      (try simp only [Exit.inBlock, Exit.then])
      refine bodyPost_ret (v := .agg #[.bool true, .int .i64 0, .int .i64 (-1), .int .i64 0, .int .i64 1]) (by simp [results, Try.results103, go_sem, *]) rfl ?_
      exact (HEND w2 ⟨true, 0, (-1), 0, 1⟩ _ HC2 HB2 HR2 (by omega)).out
    · have l0 : w2.cell? ⟨w1.heap.size, 20, none⟩ = some (.bool true) := (hlb2.cell _).trans rfl
      have l1 : w2.cell? ⟨w1.heap.size, 21, none⟩ = some (.int .i64 0) := (hlb2.cell _).trans rfl
      have l2 : w2.cell? ⟨w1.heap.size, 22, none⟩ = some (.int .i64 0) := (hlb2.cell _).trans rfl
      have l3 : w2.cell? ⟨w1.heap.size, 23, none⟩ = some (.int .i64 10000) := (hlb2.cell _).trans rfl
      have l4 : w2.cell? ⟨w1.heap.size, 24, none⟩ = some (.int .i64 1) := (hlb2.cell _).trans rfl
      have x0 : w2.cell? ⟨w.heap.size, 0, none⟩ = some (.bool false) := (hb2.cell _).trans rfl
      have f0 := hb2.frozen 0
      have x1 : w2.cell? ⟨w.heap.size, 1, none⟩ = some (.int .i64 0) := (hb2.cell _).trans rfl
      have f1 := hb2.frozen 1
      have x2 : w2.cell? ⟨w.heap.size, 2, none⟩ = some (.int .i64 0) := (hb2.cell _).trans rfl
      have f2 := hb2.frozen 2
      have x3 : w2.cell? ⟨w.heap.size, 3, none⟩ = some (.int .i64 0) := (hb2.cell _).trans rfl
      have f3 := hb2.frozen 3
      have x4 : w2.cell? ⟨w.heap.size, 4, none⟩ = some (.int .i64 0) := (hb2.cell _).trans rfl
      have f4 := hb2.frozen 4
      have hne : w1.heap.size ≠ w.heap.size := by omega
      have hne2 : w.heap.size ≠ w1.heap.size := by omega
      clear hb2 hlb2
      go_wp2_with fail
      (try simp only [Exit.inBlock, Exit.then])
      refine bodyPost_ret (v := .agg #[.bool true, .int .i64 0, .int .i64 0, .int .i64 10000, .int .i64 1]) (by simp [results, Try.results103, go_sem, *]) rfl ?_
      exact (HEND w2 ⟨true, 0, 0, 10000, 1⟩ _ HC2 HB2 HR2 (by omega)).out
    · have l0 : w2.cell? ⟨w1.heap.size, 25, none⟩ = some (.bool true) := (hlb2.cell _).trans rfl
      have l1 : w2.cell? ⟨w1.heap.size, 26, none⟩ = some (.int .i64 0) := (hlb2.cell _).trans rfl
      have l2 : w2.cell? ⟨w1.heap.size, 27, none⟩ = some (.int .i64 0) := (hlb2.cell _).trans rfl
      have l3 : w2.cell? ⟨w1.heap.size, 28, none⟩ = some (.int .i64 0) := (hlb2.cell _).trans rfl
      have l4 : w2.cell? ⟨w1.heap.size, 29, none⟩ = some (.int .i64 1000001) := (hlb2.cell _).trans rfl
      have x0 : w2.cell? ⟨w.heap.size, 0, none⟩ = some (.bool false) := (hb2.cell _).trans rfl
      have f0 := hb2.frozen 0
      have x1 : w2.cell? ⟨w.heap.size, 1, none⟩ = some (.int .i64 0) := (hb2.cell _).trans rfl
      have f1 := hb2.frozen 1
      have x2 : w2.cell? ⟨w.heap.size, 2, none⟩ = some (.int .i64 0) := (hb2.cell _).trans rfl
      have f2 := hb2.frozen 2
      have x3 : w2.cell? ⟨w.heap.size, 3, none⟩ = some (.int .i64 0) := (hb2.cell _).trans rfl
      have f3 := hb2.frozen 3
      have x4 : w2.cell? ⟨w.heap.size, 4, none⟩ = some (.int .i64 0) := (hb2.cell _).trans rfl
      have f4 := hb2.frozen 4
      have hne : w1.heap.size ≠ w.heap.size := by omega
      have hne2 : w.heap.size ≠ w1.heap.size := by omega
      clear hb2 hlb2
      go_wp2_with fail
      (try simp only [Exit.inBlock, Exit.then])
      refine bodyPost_ret (v := .agg #[.bool true, .int .i64 0, .int .i64 0, .int .i64 0, .int .i64 1000001]) (by simp [results, Try.results103, go_sem, *]) rfl ?_
      exact (HEND w2 ⟨true, 0, 0, 0, 1000001⟩ _ HC2 HB2 HR2 (by omega)).out
  go_wp2_with fail
  refine (pick_any g _ 5 _ hr1 (by omega) (by omega) (by omega)).mono ?_
  rintro e w2 ⟨k, rfl, hk, hc2, hr2⟩
  have HC2 := Lib.hid (HC1.out.trans hc2)
  have HB2 := Lib.hid (HB1.out.chg hc2 (by omega))
  clear hc2 hr1
  by_cases hk0 : k = 0
  · subst hk0
    have hb2 := HB2.out
    have x0 : w2.cell? ⟨w.heap.size, 0, none⟩ = some (.bool false) := (hb2.cell _).trans rfl
    have f0 := hb2.frozen 0
    have x1 : w2.cell? ⟨w.heap.size, 1, none⟩ = some (.int .i64 0) := (hb2.cell _).trans rfl
    have f1 := hb2.frozen 1
    have x2 : w2.cell? ⟨w.heap.size, 2, none⟩ = some (.int .i64 0) := (hb2.cell _).trans rfl
    have f2 := hb2.frozen 2
    have x3 : w2.cell? ⟨w.heap.size, 3, none⟩ = some (.int .i64 0) := (hb2.cell _).trans rfl
    have f3 := hb2.frozen 3
    have x4 : w2.cell? ⟨w.heap.size, 4, none⟩ = some (.int .i64 0) := (hb2.cell _).trans rfl
    have f4 := hb2.frozen 4
    have HR2 := Lib.hid hr2
    clear hb2 hr2
    go_wp2_with fail
    (try simp only [Exit.inBlock, Exit.then])
    refine bodyPost_ret (v := .agg #[.bool false, .int .i64 0, .int .i64 0, .int .i64 0, .int .i64 0]) (by simp [results, Try.results103, go_sem, *]) rfl ?_
    exact (HEND w2 ⟨false, 0, 0, 0, 0⟩ _ HC2 HB2 HR2 (by omega)).out
  have hkne : ((k : Int) == 0) = false := beq_eq_false_iff_ne.2 (by omega)
  clear hk0
  go_wp2_with fail
  refine (pick_any g _ 3 _ hr2 (by omega) (by omega) (by omega)).mono ?_
  rintro e w3 ⟨k1, rfl, hk1, hc3, hr3⟩
  have HC3 := Lib.hid (HC2.out.trans hc3)
  have HB3 := Lib.hid (HB2.out.chg hc3 (by omega))
  clear hc3 hr2
  go_wp2_with fail
  refine (pick_any g _ 3 _ hr3 (by omega) (by omega) (by omega)).mono ?_
  rintro e w4 ⟨k2, rfl, hk2, hc4, hr4⟩
  have HC4 := Lib.hid (HC3.out.trans hc4)
  have HB4 := Lib.hid (HB3.out.chg hc4 (by omega))
  clear hc4 hr3
  go_wp2_with fail
  refine (pick_any g _ 100 _ hr4 (by omega) (by omega) (by omega)).mono ?_
  rintro e w5 ⟨k3, rfl, hk3, hc5, hr5⟩
  have HC5 := Lib.hid (HC4.out.trans hc5)
  have HB5 := Lib.hid (HB4.out.chg hc5 (by omega))
  clear hc5 hr4
  go_wp2_with fail
  refine (pick_any g _ 9 _ hr5 (by omega) (by omega) (by omega)).mono ?_
  rintro e w6 ⟨k4, rfl, hk4, hc6, hr6⟩
  have HC6 := Lib.hid (HC5.out.trans hc6)
  have HB6 := Lib.hid (HB5.out.chg hc6 (by omega))
  have HR6 := Lib.hid hr6
  have hb6 := HB6.out
  have x0 : w6.cell? ⟨w.heap.size, 0, none⟩ = some (.bool false) := (hb6.cell _).trans rfl
  have f0 := hb6.frozen 0
  have x1 : w6.cell? ⟨w.heap.size, 1, none⟩ = some (.int .i64 0) := (hb6.cell _).trans rfl
  have f1 := hb6.frozen 1
  have x2 : w6.cell? ⟨w.heap.size, 2, none⟩ = some (.int .i64 0) := (hb6.cell _).trans rfl
  have f2 := hb6.frozen 2
  have x3 : w6.cell? ⟨w.heap.size, 3, none⟩ = some (.int .i64 0) := (hb6.cell _).trans rfl
  have f3 := hb6.frozen 3
  have x4 : w6.cell? ⟨w.heap.size, 4, none⟩ = some (.int .i64 0) := (hb6.cell _).trans rfl
  have f4 := hb6.frozen 4
  have h40 : (0 : Int) ≤ (k4 : Int) := Int.natCast_nonneg _
  clear hc6 hr5 hr6 hb6
  go_wp2_with fail
  (try simp only [Exit.inBlock, Exit.then])
  refine bodyPost_ret (v := .agg #[.bool true, .int .i64 k1, .int .i64 k2, .int .i64 k3, .int .i64 (1 + (k4 : Int))]) (by simp [results, Try.results103, go_sem, *]) rfl ?_
  exact (HEND w6 ⟨true, k1, k2, k3, 1 + (k4 : Int)⟩ _ HC6 HB6 HR6 (by omega)).out
end Go.Proofs.Ytenbbkmbnpdfaaa
