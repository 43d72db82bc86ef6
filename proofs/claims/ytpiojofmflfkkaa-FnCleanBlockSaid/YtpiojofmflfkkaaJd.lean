/- Parts of the proof, merged: Ya, Yb, Yc, Yd, Yg. -/
import Derived.Test.YtpiojofmflfkkaaJa
import Derived.Test.YtpiojofmflfkkaaJc
import Derived.Test.YtpiojofmflfkkaaJb
import Derived.Deep.RegionHeld3
import Derived.Lib.MinMax
/- Draws of pages and blocks. -/
namespace Go.Proofs.Ytpiojofmflfkkaa
open Go.RowKit
def PgDrawn (g N : Nat) (w : World) (e : Ending) (w' : World) : Prop := ∃ p, e = .returned (pval p) ∧ Chg (· = g) w w' ∧ Rdr w' g N
def FullDrawn (g N : Nat) (w : World) (e : Ending) (w' : World) : Prop := ∃ p, e = .returned (pval p) ∧ p.full = true ∧ PgOk p ∧ Chg (· = g) w w' ∧ Rdr w' g N
set_option maxRecDepth 100000 in
set_option maxHeartbeats 2000000 in
theorem l20Full_any (g N : Nat) (n : Int) (w : World) (h : Rdr w g N) (hN : N ≤ 1000000) (hn : 1 ≤ n ∧ n ≤ 1000000) :
    Calls Try.prog 119 #[.pointer (some ⟨g, 0, none⟩), .int .i64 n] w (FullDrawn g (N + 3) w) := by
  have hg := h.lt
  have hca := (Chg.refl NoB w).alloc (.cells #[.bool false, .int .i64 0, .int .i64 0, .int .i64 0, .int .i64 0] 80)
  have HB := Lib.hid (Blk.new w 80 #[.bool false, .int .i64 0, .int .i64 0, .int .i64 0, .int .i64 0])
  have HC := Lib.hid (hca.mono (G := (· = g)) (fun _ _ x => x.elim))
  have hr0 := h.alloc (.cells #[.bool false, .int .i64 0, .int .i64 0, .int .i64 0, .int .i64 0] 80)
  have HN := Lib.hid hn
  clear hca h hn
  go_enter Try.func119, Try.ntmps119
  go_wp2_with fail
  refine (pick_any g N 4 _ hr0 (by omega) (by omega) (by omega)).mono ?_
  rintro e w1 ⟨k1, rfl, hk1, hc1, hr1⟩
  have HC1 := Lib.hid (HC.out.trans hc1)
  have HB1 := Lib.hid (HB.out.chg hc1 (by omega))
  clear hc1 hr0
  go_wp2_with fail
  refine (pick_any g _ 4 _ hr1 (by omega) (by omega) (by omega)).mono ?_
  rintro e w2 ⟨k2, rfl, hk2, hc2, hr2⟩
  have HC2 := Lib.hid (HC1.out.trans hc2)
  have HB2 := Lib.hid (HB1.out.chg hc2 (by omega))
  clear hc2 hr1
  go_wp2_with fail
  refine (pick_any g _ 100 _ hr2 (by omega) (by omega) (by omega)).mono ?_
  rintro e w3 ⟨k3, rfl, hk3, hc3, hr3⟩
  have HC3 := Lib.hid (HC2.out.trans hc3)
  have hb3 := HB2.out.chg hc3 (by omega)
  have x0 : w3.cell? ⟨w.heap.size, 0, none⟩ = some (.bool false) := (hb3.cell _).trans rfl
  have f0 := hb3.frozen 0
  have x1 : w3.cell? ⟨w.heap.size, 1, none⟩ = some (.int .i64 0) := (hb3.cell _).trans rfl
  have f1 := hb3.frozen 1
  have x2 : w3.cell? ⟨w.heap.size, 2, none⟩ = some (.int .i64 0) := (hb3.cell _).trans rfl
  have f2 := hb3.frozen 2
  have x3 : w3.cell? ⟨w.heap.size, 3, none⟩ = some (.int .i64 0) := (hb3.cell _).trans rfl
  have f3 := hb3.frozen 3
  have x4 : w3.cell? ⟨w.heap.size, 4, none⟩ = some (.int .i64 0) := (hb3.cell _).trans rfl
  have f4 := hb3.frozen 4
  have HR3 := Lib.hid hr3
  have HB3 := Lib.hid hb3
  clear hc3 hr2 hr3 hb3
  go_wp2_with fail
  (try simp only [Exit.inBlock, Exit.then])
  refine bodyPost_ret (v := .agg #[.bool true, .int .i64 k1, .int .i64 k2, .int .i64 k3, .int .i64 n]) (by simp [results, Try.results119, go_sem, *]) rfl ?_
  have hcs := chg5 (F := (· = w.heap.size)) (a := .bool true) (b := .int .i64 k1) (c := .int .i64 k2) (d := .int .i64 k3) (e := .int .i64 n) (Chg.refl (· = w.heap.size) w3) (.inl rfl)
  have hnn := HN.out
  exact ⟨⟨true, k1, k2, k3, n⟩, rfl, rfl, ⟨fun hh => (by cases hh), fun _ => by show (0 ≤ (k1 : Int) ∧ (k1 : Int) ≤ 7) ∧ (0 ≤ (k2 : Int) ∧ (k2 : Int) ≤ 5) ∧ (0 ≤ (k3 : Int) ∧ (k3 : Int) ≤ 9999) ∧ (1 ≤ n ∧ n ≤ 1000000); omega⟩, HC3.out.trans' hcs (fun i hi => .inr (by rw [show i = w.heap.size from hi]; exact Nat.le_refl _)), HR3.out.chgBox hcs (by omega) HB3.out (by simp)⟩
set_option maxRecDepth 100000 in
set_option maxHeartbeats 4000000 in
theorem l20Page_any (g N : Nat) (n : Int) (w : World) (h : Rdr w g N) (hN : N ≤ 1000000) (hn0 : 0 ≤ n) (hn : n ≤ 1000000) :
    Calls Try.prog 156 #[.pointer (some ⟨g, 0, none⟩), .int .i64 n] w (PgDrawn g (N + 7) w) := by
  have hg := h.lt
  have hca := (Chg.refl NoB w).alloc (.cells #[.bool false, .int .i64 0, .int .i64 0, .int .i64 0, .int .i64 0] 80)
  have HB := Lib.hid (Blk.new w 80 #[.bool false, .int .i64 0, .int .i64 0, .int .i64 0, .int .i64 0])
  have HC := Lib.hid (hca.mono (G := (· = g)) (fun _ _ x => x.elim))
  have hr0 := h.alloc (.cells #[.bool false, .int .i64 0, .int .i64 0, .int .i64 0, .int .i64 0] 80)
  clear hca h
  have HEND : ∀ wq p M, Hid (Chg (· = g) w wq) → Hid (Blk wq w.heap.size 80 #[.bool false, .int .i64 0, .int .i64 0, .int .i64 0, .int .i64 0]) → Hid (Rdr wq g M) → M ≤ N + 7 → Hid (PgDrawn g (N + 7) w (.returned (pval p)) (((((wq.setCell ⟨w.heap.size, 0, none⟩ (.bool p.full)).setCell ⟨w.heap.size, 1, none⟩ (.int .i64 p.file)).setCell ⟨w.heap.size, 2, none⟩ (.int .i64 p.place)).setCell ⟨w.heap.size, 3, none⟩ (.int .i64 p.value)).setCell ⟨w.heap.size, 4, none⟩ (.int .i64 p.stamp))) := by
    intro wq p M h1 h2 h3 hM
    have hcs := chg5 (F := (· = w.heap.size)) (a := .bool p.full) (b := .int .i64 p.file) (c := .int .i64 p.place) (d := .int .i64 p.value) (e := .int .i64 p.stamp) (Chg.refl (· = w.heap.size) wq) (.inl rfl)
    exact Lib.hid ⟨p, rfl, h1.out.trans' hcs (fun i hi => .inr (by rw [show i = w.heap.size from hi]; exact Nat.le_refl _)), (h3.out.chgBox hcs (by omega) h2.out (by simp)).more hM⟩
  go_enter Try.func156, Try.ntmps156
  go_wp2_with fail
  refine (odd_any g N n _ hr0 (by omega) hn0 hn).mono ?_
  rintro e w1 ⟨b, rfl, -, hc1, hr1⟩
  have HC1 := Lib.hid (HC.out.trans hc1)
  have HB1 := Lib.hid (HB.out.chg hc1 (by omega))
  have hs1 := HB1.out.lt
  clear hc1 hr0
  cases b
  case true =>
    go_wp2_with fail
    have hcl := (Chg.refl NoB w1).alloc (.cells #[.bool false, .int .i64 0, .int .i64 0, .int .i64 1, .int .i64 0, .bool true, .int .i64 0, .int .i64 0, .int .i64 0, .int .i64 0, .bool true, .int .i64 8, .int .i64 0, .int .i64 0, .int .i64 1, .bool true, .int .i64 0, .int .i64 (-1), .int .i64 0, .int .i64 1, .bool true, .int .i64 0, .int .i64 0, .int .i64 10000, .int .i64 1, .bool true, .int .i64 0, .int .i64 0, .int .i64 0, .int .i64 1000001] 80)
    have hlb := Blk.new w1 80 #[.bool false, .int .i64 0, .int .i64 0, .int .i64 1, .int .i64 0, .bool true, .int .i64 0, .int .i64 0, .int .i64 0, .int .i64 0, .bool true, .int .i64 8, .int .i64 0, .int .i64 0, .int .i64 1, .bool true, .int .i64 0, .int .i64 (-1), .int .i64 0, .int .i64 1, .bool true, .int .i64 0, .int .i64 0, .int .i64 10000, .int .i64 1, .bool true, .int .i64 0, .int .i64 0, .int .i64 0, .int .i64 1000001]
    have hr1l := hr1.alloc (.cells #[.bool false, .int .i64 0, .int .i64 0, .int .i64 1, .int .i64 0, .bool true, .int .i64 0, .int .i64 0, .int .i64 0, .int .i64 0, .bool true, .int .i64 8, .int .i64 0, .int .i64 0, .int .i64 1, .bool true, .int .i64 0, .int .i64 (-1), .int .i64 0, .int .i64 1, .bool true, .int .i64 0, .int .i64 0, .int .i64 10000, .int .i64 1, .bool true, .int .i64 0, .int .i64 0, .int .i64 0, .int .i64 1000001] 80)
    refine (pick_any g _ 6 _ hr1l (by omega) (by omega) (by omega)).mono ?_
    rintro e w2 ⟨k, rfl, hk, hc2, hr2⟩
    have hgl : g < w1.heap.size := hr1.lt
    have hlb2 := hlb.chg hc2 (by omega)
    have HC2 := Lib.hid ((HC1.out.trans' hcl (fun _ x => x.elim)).trans hc2)
    have HB2 := Lib.hid ((HB1.out.chg hcl (fun x => x)).chg hc2 (by omega))
    have hb2 := HB2.out
    have HR2 := Lib.hid hr2
    clear hcl hlb hc2 hr1 hr2 hr1l
    rcases (show k = 0 ∨ k = 1 ∨ k = 2 ∨ k = 3 ∨ k = 4 ∨ k = 5 by omega) with rfl | rfl | rfl | rfl | rfl | rfl
    · have l0 : w2.cell? ⟨w1.heap.size, 0, none⟩ = some (.bool false) := (hlb2.cell _).trans rfl
      have l1 : w2.cell? ⟨w1.heap.size, 1, none⟩ = some (.int .i64 0) := (hlb2.cell _).trans rfl
      have l2 : w2.cell? ⟨w1.heap.size, 2, none⟩ = some (.int .i64 0) := (hlb2.cell _).trans rfl
      have l3 : w2.cell? ⟨w1.heap.size, 3, none⟩ = some (.int .i64 1) := (hlb2.cell _).trans rfl
      have l4 : w2.cell? ⟨w1.heap.size, 4, none⟩ = some (.int .i64 0) := (hlb2.cell _).trans rfl
      have x0 : w2.cell? ⟨w.heap.size, 0, none⟩ = some (.bool false) := (hb2.cell _).trans rfl
      have f0 := hb2.frozen 0
      have x1 : w2.cell? ⟨w.heap.size, 1, none⟩ = some (.int .i64 0) := (hb2.cell _).trans rfl
      have f1 := hb2.frozen 1
      have x2 : w2.cell? ⟨w.heap.size, 2, none⟩ = some (.int .i64 0) := (hb2.cell _).trans rfl
      have f2 := hb2.frozen 2
      have x3 : w2.cell? ⟨w.heap.size, 3, none⟩ = some (.int .i64 0) := (hb2.cell _).trans rfl
      have f3 := hb2.frozen 3
      have x4 : w2.cell? ⟨w.heap.size, 4, none⟩ = some (.int .i64 0) := (hb2.cell _).trans rfl
      have f4 := hb2.frozen 4
      have hne : w1.heap.size ≠ w.heap.size := by omega
      have hne2 : w.heap.size ≠ w1.heap.size := by omega
      clear hb2 hlb2
      go_wp2_with fail
      (try simp only [Exit.inBlock, Exit.then])
      refine bodyPost_ret (v := .agg #[.bool false, .int .i64 0, .int .i64 0, .int .i64 1, .int .i64 0]) (by simp [results, Try.results156, go_sem, *]) rfl ?_
      exact (HEND w2 ⟨false, 0, 0, 1, 0⟩ _ HC2 HB2 HR2 (by omega)).out
    · have l0 : w2.cell? ⟨w1.heap.size, 5, none⟩ = some (.bool true) := (hlb2.cell _).trans rfl
      have l1 : w2.cell? ⟨w1.heap.size, 6, none⟩ = some (.int .i64 0) := (hlb2.cell _).trans rfl
      have l2 : w2.cell? ⟨w1.heap.size, 7, none⟩ = some (.int .i64 0) := (hlb2.cell _).trans rfl
      have l3 : w2.cell? ⟨w1.heap.size, 8, none⟩ = some (.int .i64 0) := (hlb2.cell _).trans rfl
      have l4 : w2.cell? ⟨w1.heap.size, 9, none⟩ = some (.int .i64 0) := (hlb2.cell _).trans rfl
      have x0 : w2.cell? ⟨w.heap.size, 0, none⟩ = some (.bool false) := (hb2.cell _).trans rfl
      have f0 := hb2.frozen 0
      have x1 : w2.cell? ⟨w.heap.size, 1, none⟩ = some (.int .i64 0) := (hb2.cell _).trans rfl
      have f1 := hb2.frozen 1
      have x2 : w2.cell? ⟨w.heap.size, 2, none⟩ = some (.int .i64 0) := (hb2.cell _).trans rfl
      have f2 := hb2.frozen 2
      have x3 : w2.cell? ⟨w.heap.size, 3, none⟩ = some (.int .i64 0) := (hb2.cell _).trans rfl
      have f3 := hb2.frozen 3
      have x4 : w2.cell? ⟨w.heap.size, 4, none⟩ = some (.int .i64 0) := (hb2.cell _).trans rfl
      have f4 := hb2.frozen 4
      have hne : w1.heap.size ≠ w.heap.size := by omega
      have hne2 : w.heap.size ≠ w1.heap.size := by omega
      clear hb2 hlb2
      go_wp2_with fail
      (try simp only [Exit.inBlock, Exit.then])
      refine bodyPost_ret (v := .agg #[.bool true, .int .i64 0, .int .i64 0, .int .i64 0, .int .i64 0]) (by simp [results, Try.results156, go_sem, *]) rfl ?_
      exact (HEND w2 ⟨true, 0, 0, 0, 0⟩ _ HC2 HB2 HR2 (by omega)).out
    · have l0 : w2.cell? ⟨w1.heap.size, 10, none⟩ = some (.bool true) := (hlb2.cell _).trans rfl
      have l1 : w2.cell? ⟨w1.heap.size, 11, none⟩ = some (.int .i64 8) := (hlb2.cell _).trans rfl
      have l2 : w2.cell? ⟨w1.heap.size, 12, none⟩ = some (.int .i64 0) := (hlb2.cell _).trans rfl
      have l3 : w2.cell? ⟨w1.heap.size, 13, none⟩ = some (.int .i64 0) := (hlb2.cell _).trans rfl
      have l4 : w2.cell? ⟨w1.heap.size, 14, none⟩ = some (.int .i64 1) := (hlb2.cell _).trans rfl
      have x0 : w2.cell? ⟨w.heap.size, 0, none⟩ = some (.bool false) := (hb2.cell _).trans rfl
      have f0 := hb2.frozen 0
      have x1 : w2.cell? ⟨w.heap.size, 1, none⟩ = some (.int .i64 0) := (hb2.cell _).trans rfl
      have f1 := hb2.frozen 1
      have x2 : w2.cell? ⟨w.heap.size, 2, none⟩ = some (.int .i64 0) := (hb2.cell _).trans rfl
      have f2 := hb2.frozen 2
      have x3 : w2.cell? ⟨w.heap.size, 3, none⟩ = some (.int .i64 0) := (hb2.cell _).trans rfl
      have f3 := hb2.frozen 3
      have x4 : w2.cell? ⟨w.heap.size, 4, none⟩ = some (.int .i64 0) := (hb2.cell _).trans rfl
      have f4 := hb2.frozen 4
      have hne : w1.heap.size ≠ w.heap.size := by omega
      have hne2 : w.heap.size ≠ w1.heap.size := by omega
      clear hb2 hlb2
      go_wp2_with fail
      (try simp only [Exit.inBlock, Exit.then])
      refine bodyPost_ret (v := .agg #[.bool true, .int .i64 8, .int .i64 0, .int .i64 0, .int .i64 1]) (by simp [results, Try.results156, go_sem, *]) rfl ?_
      exact (HEND w2 ⟨true, 8, 0, 0, 1⟩ _ HC2 HB2 HR2 (by omega)).out
    · have l0 : w2.cell? ⟨w1.heap.size, 15, none⟩ = some (.bool true) := (hlb2.cell _).trans rfl
      have l1 : w2.cell? ⟨w1.heap.size, 16, none⟩ = some (.int .i64 0) := (hlb2.cell _).trans rfl
      have l2 : w2.cell? ⟨w1.heap.size, 17, none⟩ = some (.int .i64 (-1)) := (hlb2.cell _).trans rfl
      have l3 : w2.cell? ⟨w1.heap.size, 18, none⟩ = some (.int .i64 0) := (hlb2.cell _).trans rfl
      have l4 : w2.cell? ⟨w1.heap.size, 19, none⟩ = some (.int .i64 1) := (hlb2.cell _).trans rfl
      have x0 : w2.cell? ⟨w.heap.size, 0, none⟩ = some (.bool false) := (hb2.cell _).trans rfl
      have f0 := hb2.frozen 0
      have x1 : w2.cell? ⟨w.heap.size, 1, none⟩ = some (.int .i64 0) := (hb2.cell _).trans rfl
      have f1 := hb2.frozen 1
      have x2 : w2.cell? ⟨w.heap.size, 2, none⟩ = some (.int .i64 0) := (hb2.cell _).trans rfl
      have f2 := hb2.frozen 2
      have x3 : w2.cell? ⟨w.heap.size, 3, none⟩ = some (.int .i64 0) := (hb2.cell _).trans rfl
      have f3 := hb2.frozen 3
      have x4 : w2.cell? ⟨w.heap.size, 4, none⟩ = some (.int .i64 0) := (hb2.cell _).trans rfl
      have f4 := hb2.frozen 4
      have hne : w1.heap.size ≠ w.heap.size := by omega
      have hne2 : w.heap.size ≠ w1.heap.size := by omega
      clear hb2 hlb2
      go_wp2_with fail
      (try simp only [Exit.inBlock, Exit.then])
      refine bodyPost_ret (v := .agg #[.bool true, .int .i64 0, .int .i64 (-1), .int .i64 0, .int .i64 1]) (by simp [results, Try.results156, go_sem, *]) rfl ?_
      exact (HEND w2 ⟨true, 0, (-1), 0, 1⟩ _ HC2 HB2 HR2 (by omega)).out
    · have l0 : w2.cell? ⟨w1.heap.size, 20, none⟩ = some (.bool true) := (hlb2.cell _).trans rfl
      have l1 : w2.cell? ⟨w1.heap.size, 21, none⟩ = some (.int .i64 0) := (hlb2.cell _).trans rfl
      have l2 : w2.cell? ⟨w1.heap.size, 22, none⟩ = some (.int .i64 0) := (hlb2.cell _).trans rfl
      have l3 : w2.cell? ⟨w1.heap.size, 23, none⟩ = some (.int .i64 10000) := (hlb2.cell _).trans rfl
      have l4 : w2.cell? ⟨w1.heap.size, 24, none⟩ = some (.int .i64 1) := (hlb2.cell _).trans rfl
      have x0 : w2.cell? ⟨w.heap.size, 0, none⟩ = some (.bool false) := (hb2.cell _).trans rfl
      have f0 := hb2.frozen 0
      have x1 : w2.cell? ⟨w.heap.size, 1, none⟩ = some (.int .i64 0) := (hb2.cell _).trans rfl
      have f1 := hb2.frozen 1
      have x2 : w2.cell? ⟨w.heap.size, 2, none⟩ = some (.int .i64 0) := (hb2.cell _).trans rfl
      have f2 := hb2.frozen 2
      have x3 : w2.cell? ⟨w.heap.size, 3, none⟩ = some (.int .i64 0) := (hb2.cell _).trans rfl
      have f3 := hb2.frozen 3
      have x4 : w2.cell? ⟨w.heap.size, 4, none⟩ = some (.int .i64 0) := (hb2.cell _).trans rfl
      have f4 := hb2.frozen 4
      have hne : w1.heap.size ≠ w.heap.size := by omega
      have hne2 : w.heap.size ≠ w1.heap.size := by omega
      clear hb2 hlb2
      go_wp2_with fail
      (try simp only [Exit.inBlock, Exit.then])
      refine bodyPost_ret (v := .agg #[.bool true, .int .i64 0, .int .i64 0, .int .i64 10000, .int .i64 1]) (by simp [results, Try.results156, go_sem, *]) rfl ?_
      exact (HEND w2 ⟨true, 0, 0, 10000, 1⟩ _ HC2 HB2 HR2 (by omega)).out
    · have l0 : w2.cell? ⟨w1.heap.size, 25, none⟩ = some (.bool true) := (hlb2.cell _).trans rfl
      have l1 : w2.cell? ⟨w1.heap.size, 26, none⟩ = some (.int .i64 0) := (hlb2.cell _).trans rfl
      have l2 : w2.cell? ⟨w1.heap.size, 27, none⟩ = some (.int .i64 0) := (hlb2.cell _).trans rfl
      have l3 : w2.cell? ⟨w1.heap.size, 28, none⟩ = some (.int .i64 0) := (hlb2.cell _).trans rfl
      have l4 : w2.cell? ⟨w1.heap.size, 29, none⟩ = some (.int .i64 1000001) := (hlb2.cell _).trans rfl
      have x0 : w2.cell? ⟨w.heap.size, 0, none⟩ = some (.bool false) := (hb2.cell _).trans rfl
      have f0 := hb2.frozen 0
      have x1 : w2.cell? ⟨w.heap.size, 1, none⟩ = some (.int .i64 0) := (hb2.cell _).trans rfl
      have f1 := hb2.frozen 1
      have x2 : w2.cell? ⟨w.heap.size, 2, none⟩ = some (.int .i64 0) := (hb2.cell _).trans rfl
      have f2 := hb2.frozen 2
      have x3 : w2.cell? ⟨w.heap.size, 3, none⟩ = some (.int .i64 0) := (hb2.cell _).trans rfl
      have f3 := hb2.frozen 3
      have x4 : w2.cell? ⟨w.heap.size, 4, none⟩ = some (.int .i64 0) := (hb2.cell _).trans rfl
      have f4 := hb2.frozen 4
      have hne : w1.heap.size ≠ w.heap.size := by omega
      have hne2 : w.heap.size ≠ w1.heap.size := by omega
      clear hb2 hlb2
      go_wp2_with fail
      (try simp only [Exit.inBlock, Exit.then])
      refine bodyPost_ret (v := .agg #[.bool true, .int .i64 0, .int .i64 0, .int .i64 0, .int .i64 1000001]) (by simp [results, Try.results156, go_sem, *]) rfl ?_
      exact (HEND w2 ⟨true, 0, 0, 0, 1000001⟩ _ HC2 HB2 HR2 (by omega)).out
  go_wp2_with fail
  refine (pick_any g _ 5 _ hr1 (by omega) (by omega) (by omega)).mono ?_
  rintro e w2 ⟨k, rfl, hk, hc2, hr2⟩
  have HC2 := Lib.hid (HC1.out.trans hc2)
  have HB2 := Lib.hid (HB1.out.chg hc2 (by omega))
  clear hc2 hr1
  by_cases hk0 : k = 0
  · subst hk0
    have hb2 := HB2.out
    have x0 : w2.cell? ⟨w.heap.size, 0, none⟩ = some (.bool false) := (hb2.cell _).trans rfl
    have f0 := hb2.frozen 0
    have x1 : w2.cell? ⟨w.heap.size, 1, none⟩ = some (.int .i64 0) := (hb2.cell _).trans rfl
    have f1 := hb2.frozen 1
    have x2 : w2.cell? ⟨w.heap.size, 2, none⟩ = some (.int .i64 0) := (hb2.cell _).trans rfl
    have f2 := hb2.frozen 2
    have x3 : w2.cell? ⟨w.heap.size, 3, none⟩ = some (.int .i64 0) := (hb2.cell _).trans rfl
    have f3 := hb2.frozen 3
    have x4 : w2.cell? ⟨w.heap.size, 4, none⟩ = some (.int .i64 0) := (hb2.cell _).trans rfl
    have f4 := hb2.frozen 4
    have HR2 := Lib.hid hr2
    clear hb2 hr2
    go_wp2_with fail
    (try simp only [Exit.inBlock, Exit.then])
    refine bodyPost_ret (v := .agg #[.bool false, .int .i64 0, .int .i64 0, .int .i64 0, .int .i64 0]) (by simp [results, Try.results156, go_sem, *]) rfl ?_
    exact (HEND w2 ⟨false, 0, 0, 0, 0⟩ _ HC2 HB2 HR2 (by omega)).out
  have hkne : ((k : Int) == 0) = false := beq_eq_false_iff_ne.2 (by omega)
  clear hk0
  go_wp2_with fail
  refine (pick_any g _ 3 _ hr2 (by omega) (by omega) (by omega)).mono ?_
  rintro e w3 ⟨k1, rfl, hk1, hc3, hr3⟩
  have HC3 := Lib.hid (HC2.out.trans hc3)
  have HB3 := Lib.hid (HB2.out.chg hc3 (by omega))
  clear hc3 hr2
  go_wp2_with fail
  refine (pick_any g _ 3 _ hr3 (by omega) (by omega) (by omega)).mono ?_
  rintro e w4 ⟨k2, rfl, hk2, hc4, hr4⟩
  have HC4 := Lib.hid (HC3.out.trans hc4)
  have HB4 := Lib.hid (HB3.out.chg hc4 (by omega))
  clear hc4 hr3
  go_wp2_with fail
  refine (pick_any g _ 100 _ hr4 (by omega) (by omega) (by omega)).mono ?_
  rintro e w5 ⟨k3, rfl, hk3, hc5, hr5⟩
  have HC5 := Lib.hid (HC4.out.trans hc5)
  have HB5 := Lib.hid (HB4.out.chg hc5 (by omega))
  clear hc5 hr4
  go_wp2_with fail
  refine (pick_any g _ 9 _ hr5 (by omega) (by omega) (by omega)).mono ?_
  rintro e w6 ⟨k4, rfl, hk4, hc6, hr6⟩
  have HC6 := Lib.hid (HC5.out.trans hc6)
  have HB6 := Lib.hid (HB5.out.chg hc6 (by omega))
  have HR6 := Lib.hid hr6
  have hb6 := HB6.out
  have x0 : w6.cell? ⟨w.heap.size, 0, none⟩ = some (.bool false) := (hb6.cell _).trans rfl
  have f0 := hb6.frozen 0
  have x1 : w6.cell? ⟨w.heap.size, 1, none⟩ = some (.int .i64 0) := (hb6.cell _).trans rfl
  have f1 := hb6.frozen 1
  have x2 : w6.cell? ⟨w.heap.size, 2, none⟩ = some (.int .i64 0) := (hb6.cell _).trans rfl
  have f2 := hb6.frozen 2
  have x3 : w6.cell? ⟨w.heap.size, 3, none⟩ = some (.int .i64 0) := (hb6.cell _).trans rfl
  have f3 := hb6.frozen 3
  have x4 : w6.cell? ⟨w.heap.size, 4, none⟩ = some (.int .i64 0) := (hb6.cell _).trans rfl
  have f4 := hb6.frozen 4
  have h40 : (0 : Int) ≤ (k4 : Int) := Int.natCast_nonneg _
  clear hc6 hr5 hr6 hb6
  go_wp2_with fail
  (try simp only [Exit.inBlock, Exit.then])
  refine bodyPost_ret (v := .agg #[.bool true, .int .i64 k1, .int .i64 k2, .int .i64 k3, .int .i64 (1 + (k4 : Int))]) (by simp [results, Try.results156, go_sem, *]) rfl ?_
  exact (HEND w6 ⟨true, k1, k2, k3, 1 + (k4 : Int)⟩ _ HC6 HB6 HR6 (by omega)).out
end Go.Proofs.Ytpiojofmflfkkaa
/- The draw of a block. -/
namespace Go.Proofs.Ytpiojofmflfkkaa
open Go.RowKit
def BkDrawn (g N : Nat) (w : World) (e : Ending) (w' : World) : Prop :=
  ∃ b A c, e = .returned (.agg #[.int .i64 (b : Bk).wear, .slice A b.pages.length c]) ∧ Rd (fun i => w.heap.size ≤ i) w' A (pgs b.pages) ∧ b.pages.length ≤ c ∧ b.pages.length ≤ 4 ∧ Chg (· = g) w w' ∧ Rdr w' g N
theorem four_pgs {ps : List Pg} (h : ps.length = 4) : ∃ p0 p1 p2 p3, ps = [p0, p1, p2, p3] := by
  match ps, h with
  | [p0, p1, p2, p3], _ => exact ⟨p0, p1, p2, p3, rfl⟩
theorem blk_pgs {w : World} {g B : Nat} {ps : List Pg} {rest : List Value} (h : Blk w g 80 (pgs ps ++ rest).toArray) (hB : B ≤ g) : Rd (fun i => B ≤ i) w (some ⟨g, 0, none⟩) (pgs ps) := fun k v hk => by
  obtain ⟨ad, e, hf, hc⟩ := h.rd k v (by rw [List.getElem?_append_left (List.getElem?_eq_some_iff.1 hk).1]; exact hk)
  exact ⟨ad, e, by rw [hf]; exact hB, hc⟩
theorem blk_pgs_tail {w : World} {g B : Nat} {p : Pg} {ps : List Pg} {rest : List Value} (h : Blk w g 80 (pgs (p :: ps) ++ rest).toArray) (hB : B ≤ g) : Rd (fun i => B ≤ i) w (some ⟨g, 5, none⟩) (pgs ps) := fun q u hq => by
  have e1 : pgs (p :: ps) = pcells p ++ pgs ps := rfl
  obtain ⟨ad, e, hf, hcell⟩ := blk_pgs h hB (5 + q) u (by rw [e1, List.getElem?_append_right (by rw [pcells_length]; omega), pcells_length, show 5 + q - 5 = q by omega]; exact hq)
  cases e
  exact ⟨_, rfl, hf, by rw [← hcell]; congr 1; rw [← add_add']; congr 1⟩
set_option maxRecDepth 100000 in
set_option maxHeartbeats 8000000 in
theorem l20Block_any (g N : Nat) (n : Int) (w : World) (h : Rdr w g N) (hN : N ≤ 100000) (hn0 : 0 ≤ n) (hn : n ≤ 1000000) :
    Calls Try.prog 121 #[.pointer (some ⟨g, 0, none⟩), .int .i64 n] w (BkDrawn g (N + 400) w) := by
  have hg := h.lt
  have hca := (Chg.refl NoB w).alloc (.cells #[.int .i64 0, .slice none 0 0] 67)
  have HB0 := Lib.hid (Blk.new w 67 #[.int .i64 0, .slice none 0 0])
  have HC0 := Lib.hid (hca.mono (G := (· = g)) (fun _ _ x => x.elim))
  have hr0 := h.alloc (.cells #[.int .i64 0, .slice none 0 0] 67)
  clear hca h
  have HEND : ∀ wq x A l c ps M, Hid (Chg (· = g) w wq) → Hid (Blk wq w.heap.size 67 #[.int .i64 0, .slice none 0 0]) → Hid (Rdr wq g M) → M ≤ N + 400 → Hid (Rd (fun i => w.heap.size + 1 ≤ i) wq A (pgs ps)) → Hid (ps.length = l) → l ≤ c → l ≤ 4 →
      Hid (BkDrawn g (N + 400) w (.returned (.agg #[.int .i64 x, .slice A l c])) ((wq.setCell ⟨w.heap.size, 0, none⟩ (.int .i64 x)).setCell ⟨w.heap.size, 1, none⟩ (.slice A l c))) := by
    intro wq x A l c ps M h1 h2 h3 hM hrd hl hc h4
    have hcs := chg2' (F := (· = w.heap.size)) (a := .int .i64 x) (b := .slice A l c) (Chg.refl (· = w.heap.size) wq) (.inl rfl)
    have hl' := hl.out
    subst hl'
    exact Lib.hid ⟨⟨x, ps⟩, A, c, rfl, (hrd.out.chg hcs (fun i hi he => by have h9 : i = w.heap.size := he; omega)).mono (fun i _ hi => by omega), hc, h4, h1.out.trans' hcs (fun i hi => .inr (by rw [show i = w.heap.size from hi]; exact Nat.le_refl _)), (h3.out.chgBox hcs (by omega) h2.out (by simp)).more hM⟩
  go_enter Try.func121, Try.ntmps121
  go_wp2_with fail
  refine (pick_any g N 9 _ hr0 (by omega) (by omega) (by omega)).mono ?_
  rintro e w1 ⟨k9, rfl, hk9, hc1, hr1⟩
  have HC1 := Lib.hid (HC0.out.trans hc1)
  have HB1 := Lib.hid (HB0.out.chg hc1 (by omega))
  have hg1 := hr1.lt
  have hs1 := HB1.out.lt
  clear hc1 hr0
  go_wp2_with fail
  obtain ⟨q1, q2, q3⟩ := lit2 w1 3 3 #[.int .i64 k9, .int .i64 100, .int .i64 99] #[.int .i64 0, .int .i64 0, .int .i64 0, .int .i64 0, .int .i64 0, .int .i64 1, .int .i64 2]
  refine (pick_any g _ 7 _ ((hr1.alloc _).alloc _) (by omega) (by omega) (by omega)).mono ?_
  rintro e w2 ⟨k7, rfl, hk7, hc2, hr2⟩
  obtain ⟨j, hj1, hj2⟩ := lit_nat (q2.chg hc2 (by omega)) 3 k7 (by simp; omega) (by simp)
  obtain ⟨x, hx1, hx2⟩ := lit_nat (q1.chg hc2 (by omega)) 101 j (by simp; omega) (by intro v hv; simp at hv; rcases hv with rfl | rfl | rfl <;> exact ⟨_, rfl, by omega, by omega⟩)
  have hk70 : (0 : Int) ≤ (k7 : Int) := Int.natCast_nonneg _
  have hj0 : (0 : Int) ≤ (j : Int) := Int.natCast_nonneg _
  have hj3 : (j : Int) < 3 := by omega
  have HC2 := Lib.hid ((HC1.out.trans' q3 (fun _ x => x.elim)).trans hc2)
  have HB2 := Lib.hid ((HB1.out.chg q3 (fun x => x)).chg hc2 (by omega))
  have HR2 := Lib.hid hr2
  clear q1 q2 q3 hc2 hr1 hr2
  go_wp2_with fail
  refine (sNewBlock_any (x : Int) _ ⟨by omega, by omega⟩).mono ?_
  rintro e w3 ⟨gp, cp, rest, rfl, h4, hok, hc3⟩
  have hca := (Chg.refl NoB w3).alloc (.cells #[.int .i64 x, .slice (some ⟨gp, 0, none⟩) 4 cp] 67)
  have hs2 := HC2.out.size
  have hs2b := HB2.out.lt
  have HV4 := Lib.hid (Blk.new w3 67 #[.int .i64 x, .slice (some ⟨gp, 0, none⟩) 4 cp])
  have HC4 := Lib.hid (HC2.out.trans' (hc3.trans hca) (fun _ x => x.elim))
  have HB4 := Lib.hid (HB2.out.chg (hc3.trans hca) (fun x => x))
  have hr4 := HR2.out.chg (hc3.trans hca) (fun _ _ x => x)
  have HOK4 := Lib.hid ((hok.chg hca (fun x => x)).more (show w.heap.size + 1 ≤ w2.heap.size by omega) hca.size)
  have HS3 := Lib.hid (show w.heap.size < w3.heap.size by have := hc3.size; omega)
  clear hx1 hj1 hok hca hc3 h4
  go_wp2_with fail
  obtain ⟨V, hV⟩ : ∃ V, w3.heap.size = V := ⟨_, rfl⟩
  obtain ⟨w4, hw4⟩ : ∃ w4, w3.alloc (.cells #[.int .i64 x, .slice (some ⟨gp, 0, none⟩) 4 cp] 67) = w4 := ⟨_, rfl⟩
  have hv4 := HV4.out
  have hc4 := HC4.out
  have hb4 := HB4.out
  have hok4 := HOK4.out
  have hs3 := HS3.out
  rw [hw4] at hv4 hc4 hb4 hok4 hr4 ⊢
  rw [hV] at hv4 hs3 ⊢
  replace HV4 := Lib.hid hv4
  replace HC4 := Lib.hid hc4
  replace HB4 := Lib.hid hb4
  replace HOK4 := Lib.hid hok4
  have HVW := Lib.hid hs3
  clear hv4 hc4 hb4 hok4 hs3 hV hw4 HS3 HC2 HB2 HR2 HC1 HB1 HC0 HB0
  refine (pick_any g _ 6 _ hr4 (by omega) (by omega) (by omega)).mono ?_
  rintro e w5 ⟨k6, rfl, hk6, hc5, hr5⟩
  have hgV : g < V := by have := HVW.out; omega
  have HV5 := Lib.hid (HV4.out.chg hc5 (by omega))
  have HC5 := Lib.hid (HC4.out.trans hc5)
  have HB5 := Lib.hid (HB4.out.chg hc5 (by omega))
  have HOK5 := Lib.hid ((HOK4.out.chg hc5 (by have := HOK4.out.1; show ¬ (gp = g); have h9 : w.heap.size + 1 ≤ gp := this; omega)).more (Nat.le_refl _) hc5.size)
  have HBK := Lib.hid (show BkOk ⟨(x : Int), List.replicate 4 zPg⟩ from ⟨⟨by show (0 : Int) ≤ (x : Int); omega, by show (x : Int) ≤ 100; omega⟩, by simp, fun k hk => ⟨by simp only [List.getElem_replicate]; exact PgOk.zero, fun _ hf => by simp only [List.getElem_replicate] at hf; cases hf⟩⟩)
  clear hr4 hc5 HV4 HC4 HB4 HOK4
  go_wp2_with fail
  go_loopw [6] (fun i wr => ∃ (k M gq cq : Nat) (ps : List Pg) (rest : List Value), k ≤ 5 ∧ i = .int .i64 k ∧ M + 40 * k ≤ N + 210 ∧ Rdr wr g M ∧ Chg (· = g) w wr ∧ Blk wr w.heap.size 67 #[.int .i64 0, .slice none 0 0] ∧ Blk wr V 67 #[.int .i64 x, .slice (some ⟨gq, 0, none⟩) 4 cq] ∧ Hid (BkOk ⟨(x : Int), ps⟩) ∧ BkO.ok (w.heap.size + 1) wr.heap.size wr ⟨gq, cq, x, ps, rest⟩) (fun i _ => (intOf i).toNat)
  case atStart => exact ⟨k6, _, gp, cp, _, rest, by omega, rfl, by omega, hr5, HC5.out, HB5.out, HV5.out, HBK, HOK5.out⟩
  case round =>
    obtain ⟨k, M, gq, cq, ps, rest, hk5, rfl, hM, hr, hch, hb0, hbv, HBP, hok⟩ := hrel
    have hgW := hr.lt
    have h4 : ps.length = 4 := HBP.out.2.1
    have hqB : w.heap.size + 1 ≤ gq := hok.1
    have hqE : gq < wr.heap.size := hok.2.1
    have hcq : 4 ≤ cq := by have := hok.2.2.2; have h9 : ps.length ≤ cq := this; omega
    have hbq : Blk wr gq 80 (pgs ps ++ rest).toArray := hok.2.2.1
    have hqV : gq ≠ V := fun he => by
      rw [he] at hbq
      exact ty_page_block (hbq.sameTy hbv)
    have hVq : V ≠ gq := Ne.symm hqV
    have hVl := hbv.lt
    have hVw := HVW.out
    have hVw1 : w.heap.size ≠ V := by omega
    have hVw2 : V ≠ w.heap.size := by omega
    have v0 : wr.cell? ⟨V, 0, none⟩ = some (.int .i64 x) := (hbv.cell _).trans rfl
    have vf0 := hbv.frozen 0
    have v1 : wr.cell? ⟨V, 1, none⟩ = some (.slice (some ⟨gq, 0, none⟩) 4 cq) := (hbv.cell _).trans rfl
    have vf1 := hbv.frozen 1
    have HR := Lib.hid hr
    have HC := Lib.hid hch
    have HB := Lib.hid hb0
    have HV := Lib.hid hbv
    have HOK := Lib.hid hok
    have HBQ := Lib.hid hbq
    have HLP := Lib.hid h4
    clear hr hch hb0 hbv hok hbq h4 hr5 HV5 HC5 HB5 HOK5 HBK
    by_cases hk0 : 0 < k
    · have hk1 : (0 : Int) < (k : Int) := by omega
      go_wp2_with fail
      refine wp_region_rg (WInv := fun cc m w5 => Rdr w5 g (M + 3 * cc) ∧ Chg ((· = g)) wr w5 ∧ cc ≤ 13 ∧ BoxI wr.heap.size 67 #[.int .i64 0, .slice none 0 0] 10 11 8 m w5) (R := RBox ((· = g)) wr.heap.size 67) (Post := PL [fun v w => v = .agg #[.int .i64 x, .slice (some ⟨gq, 0, none⟩) 4 cq], fun v w => v = .pointer (some ⟨g, 0, none⟩), fun v w => v = .pointer (some ⟨g, 0, none⟩), fun v w => ∃ k : Nat, v = .int .i64 (k : Int) ∧ k < 9, fun v w => ∃ k : Nat, v = .int .i64 (1 + (k : Int)) ∧ k < 9, fun v w => ∃ p : Pg, v = pval p ∧ p.full = true ∧ PgOk p, fun v w => ∃ p : Pg, ∃ g3 : Nat, ∃ c3 : Nat, ∃ rest3 : List Value, v = .tuple #[.agg #[.int .i64 x, .slice (some ⟨g3, 0, none⟩) 4 c3], .int .i64 (writeBlock ⟨x, ps⟩ p).2] ∧ p.full = true ∧ PgOk p ∧ BkO.ok wr.heap.size w.heap.size w ⟨g3, c3, x, (writeBlock ⟨x, ps⟩ p).1.pages, rest3⟩, fun v w => ∃ p : Pg, ∃ g3 : Nat, ∃ c3 : Nat, ∃ rest3 : List Value, v = .tuple #[.agg #[.int .i64 x, .slice (some ⟨g3, 0, none⟩) 4 c3], .int .i64 (writeBlock ⟨x, ps⟩ p).2] ∧ p.full = true ∧ PgOk p ∧ BkO.ok wr.heap.size w.heap.size w ⟨g3, c3, x, (writeBlock ⟨x, ps⟩ p).1.pages, rest3⟩, fun v w => ∃ p : Pg, ∃ g3 : Nat, ∃ c3 : Nat, ∃ rest3 : List Value, v = .agg #[.int .i64 x, .slice (some ⟨g3, 0, none⟩) 4 c3] ∧ p.full = true ∧ PgOk p ∧ BkO.ok wr.heap.size w.heap.size w ⟨g3, c3, x, (writeBlock ⟨x, ps⟩ p).1.pages, rest3⟩, fun v w => ∃ z : Int, v = .int .i64 z, fun _ _ => True, fun _ _ => True, fun v w => ∃ z : Int, v = .int .i64 z]) (by kernel_rfl) (by kernel_rfl) ?_ (pl_stab ⟨(fun _ _ _ h _ => h), (fun _ _ _ h _ => h), (fun _ _ _ h _ => h), (fun _ _ _ h _ => h), (fun _ _ _ h _ => h), (fun _ _ _ h _ => h), (fun _ _ _ ⟨p, g3, c3, rest3, hv, hpf, hpo, hok⟩ hR => ⟨p, g3, c3, rest3, hv, hpf, hpo, (ok_box hok hR (fun i hi he => by have h9 : i = g := he; omega))⟩), (fun _ _ _ ⟨p, g3, c3, rest3, hv, hpf, hpo, hok⟩ hR => ⟨p, g3, c3, rest3, hv, hpf, hpo, (ok_box hok hR (fun i hi he => by have h9 : i = g := he; omega))⟩), (fun _ _ _ ⟨p, g3, c3, rest3, hv, hpf, hpo, hok⟩ hR => ⟨p, g3, c3, rest3, hv, hpf, hpo, (ok_box hok hR (fun i hi he => by have h9 : i = g := he; omega))⟩), (fun _ _ _ h _ => h), (fun _ _ _ _ _ => trivial), (fun _ _ _ _ _ => trivial), (fun _ _ _ h _ => h), trivial⟩) ⟨(HR.out.drew).more (by omega), (Chg.refl _ _).drew, Nat.zero_le _, BoxI.start⟩ ?_ ?_
      · rintro c c' m w ⟨h1, h2, _, h5⟩ h3 h4
        exact ⟨h1.more (by omega), h2, h4, h5⟩
      · refine ⟨?_, ?_, ?_, ?_, ?_, ?_, ?_, ?_, ?_, ?_, ?_, ?_, ?_, trivial⟩
        · rintro kc m a w5 hkc ⟨hrd, hch, hcc, hbx⟩ hm hn
          obtain ⟨h0, -⟩ := hn
          have e0 : a.tmps[5]?.getD undef = .pointer (some ⟨V, 0, none⟩) := h0
          have y0 := hch.cell v0 (by show ¬ (V = g); omega)
          have y1 := hch.cell v1 (by show ¬ (V = g); omega)
          exact rg_val (v := .agg #[.int .i64 x, .slice (some ⟨gq, 0, none⟩) 4 cq]) (by simp [execOp, go_sem, e0, y0, y1]) rfl ⟨hrd.more (by omega), hch, hkc, hbx.keep (by decide) (by decide) hm (Chg.refl NoB _) (fun _ _ x => x)⟩ (Chg.refl _ _) rfl
        · rintro kc m a w5 hkc ⟨hrd, hch, hcc, hbx⟩ hm hn
          obtain ⟨h0, -⟩ := hn
          have e0 : a.tmps[0]?.getD undef = .pointer (some ⟨g, 0, none⟩) := h0
          exact rg_val (v := .pointer (some ⟨g, 0, none⟩)) (by simp [execOp, go_sem, e0]) rfl ⟨hrd.more (by omega), hch, hkc, hbx.keep (by decide) (by decide) hm (Chg.refl NoB _) (fun _ _ x => x)⟩ (Chg.refl _ _) rfl
        · rintro kc m a w5 hkc ⟨hrd, hch, hcc, hbx⟩ hm hn
          obtain ⟨h0, -⟩ := hn
          have e0 : a.tmps[0]?.getD undef = .pointer (some ⟨g, 0, none⟩) := h0
          exact rg_val (v := .pointer (some ⟨g, 0, none⟩)) (by simp [execOp, go_sem, e0]) rfl ⟨hrd.more (by omega), hch, hkc, hbx.keep (by decide) (by decide) hm (Chg.refl NoB _) (fun _ _ x => x)⟩ (Chg.refl _ _) rfl
        · rintro kc m a w5 hkc ⟨hrd, hch, hcc, hbx⟩ hm hn
          obtain ⟨⟨_, e0, m0, rfl⟩, -⟩ := hn
          refine rg_call (f := 63) (args := #[.pointer (some ⟨g, 0, none⟩), .int .i64 9]) (by simp [go_sem, e0]) rfl ?_
          refine (pick_any g _ 9 _ hrd (by omega) (by omega) (by omega)).mono ?_
          rintro e' w6 ⟨k, rfl, hk, hc6, hr6⟩
          exact ⟨_, rfl, ⟨hr6.more (by omega), hch.trans hc6, hkc, hbx.keep (by decide) (by decide) hm hc6 (fun i hi he => by have := hgW; omega)⟩, (RBox.of hc6 (fun _ x => x)), ⟨k, rfl, (by omega)⟩⟩
        · rintro kc m a w5 hkc ⟨hrd, hch, hcc, hbx⟩ hm hn
          obtain ⟨⟨_, e0, m0, k, rfl, hk⟩, -⟩ := hn
          have hw : IntKind.i64.wrap (1 + (k : Int)) = 1 + (k : Int) := IntWalk.i64_in _ ⟨by omega, by omega⟩
          exact rg_val (v := .int .i64 (1 + (k : Int))) (by simp [execOp, go_sem, e0, hw]) rfl ⟨hrd.more (by omega), hch, hkc, hbx.keep (by decide) (by decide) hm (Chg.refl NoB _) (fun _ _ x => x)⟩ (Chg.refl _ _) ⟨k, rfl, hk⟩
        · rintro kc m a w5 hkc ⟨hrd, hch, hcc, hbx⟩ hm hn
          obtain ⟨⟨_, e0, m0, rfl⟩, ⟨_, e1, m1, k, rfl, hk⟩, -⟩ := hn
          refine rg_call (f := 119) (args := #[.pointer (some ⟨g, 0, none⟩), .int .i64 (1 + (k : Int))]) (by simp [go_sem, e0, e1]) rfl ?_
          refine (l20Full_any g _ (1 + (k : Int)) _ hrd (by omega) ⟨by omega, by omega⟩).mono ?_
          rintro e' w6 ⟨p, rfl, hpf, hpo, hc6, hr6⟩
          exact ⟨_, rfl, ⟨hr6.more (by omega), hch.trans hc6, hkc, hbx.keep (by decide) (by decide) hm hc6 (fun i hi he => by have := hgW; omega)⟩, (RBox.of hc6 (fun _ x => x)), ⟨p, rfl, hpf, hpo⟩⟩
        · rintro kc m a w5 hkc ⟨hrd, hch, hcc, hbx⟩ hm hn
          obtain ⟨⟨_, e0, m0, rfl⟩, ⟨_, e1, m1, p, rfl, hpf, hpo⟩, -⟩ := hn
          refine rg_call (f := 155) (args := #[.agg #[.int .i64 x, .slice (some ⟨gq, 0, none⟩) 4 cq], pval p]) (by simp [go_sem, e0, e1]) rfl ?_
          refine (sWriteBlock_any _ (some ⟨gq, 0, none⟩) cq ⟨x, ps⟩ p _ (HOK.out.rd.chg hch (fun i hi he => by have h9 : i = g := he; have := hi.1; omega)) HBP.out hpo hpf).mono ?_
          rintro e' w6 ⟨g3, c3, rest3, rfl, hok6, hc6⟩
          exact ⟨_, rfl, ⟨(hrd.chg hc6 (fun _ _ x => x)).more (by omega), hch.trans' hc6 (fun _ x => x.elim), hkc, hbx.keep (by decide) (by decide) hm hc6 (fun _ _ x => x)⟩, (RBox.of hc6 (fun _ x => x.elim)), ⟨p, g3, c3, rest3, rfl, hpf, hpo, (hok6.more hch.size (Nat.le_refl _))⟩⟩
        · rintro kc m a w5 hkc ⟨hrd, hch, hcc, hbx⟩ hm hn
          obtain ⟨⟨_, e0, m0, p, g3, c3, rest3, rfl, hpf, hpo, hok⟩, -⟩ := hn
          exact rg_val (v := .tuple #[.agg #[.int .i64 x, .slice (some ⟨g3, 0, none⟩) 4 c3], .int .i64 (writeBlock ⟨x, ps⟩ p).2]) (by simp [execOp, go_sem, e0]) rfl ⟨hrd.more (by omega), hch, hkc, hbx.keep (by decide) (by decide) hm (Chg.refl NoB _) (fun _ _ x => x)⟩ (Chg.refl _ _) ⟨p, g3, c3, rest3, rfl, hpf, hpo, hok⟩
        · rintro kc m a w5 hkc ⟨hrd, hch, hcc, hbx⟩ hm hn
          obtain ⟨⟨_, e0, m0, p, g3, c3, rest3, rfl, hpf, hpo, hok⟩, -⟩ := hn
          exact rg_val (v := .agg #[.int .i64 x, .slice (some ⟨g3, 0, none⟩) 4 c3]) (by simp [execOp, go_sem, e0]) rfl ⟨hrd.more (by omega), hch, hkc, hbx.keep (by decide) (by decide) hm (Chg.refl NoB _) (fun _ _ x => x)⟩ (Chg.refl _ _) ⟨p, g3, c3, rest3, rfl, hpf, hpo, hok⟩
        · rintro kc m a w5 hkc ⟨hrd, hch, hcc, hbx⟩ hm hn
          obtain ⟨⟨_, e0, m0, p, g3, c3, rest3, rfl, hpf, hpo, hok⟩, -⟩ := hn
          exact rg_val (v := .int .i64 (writeBlock ⟨x, ps⟩ p).2) (by simp [execOp, go_sem, e0]) rfl ⟨hrd.more (by omega), hch, hkc, hbx.keep (by decide) (by decide) hm (Chg.refl NoB _) (fun _ _ x => x)⟩ (Chg.refl _ _) ⟨_, rfl⟩
        · rintro kc m a w5 hkc ⟨hrd, hch, hcc, hbx⟩ hm hn
          have hca : Chg NoB w5 (w5.alloc (.cells #[.int .i64 0, .slice none 0 0] 67)) := (Chg.refl _ _).alloc _
          exact rg_val (v := .pointer (some ⟨w5.heap.size, 0, none⟩)) (w' := w5.alloc (.cells #[.int .i64 0, .slice none 0 0] 67)) (by simp [execOp, go_sem]) rfl ⟨(hrd.alloc _).more (by omega), hch.alloc _, hkc, hbx.alloc (by decide) hm hch.size⟩ (RBox.of hca (fun _ x => x.elim)) trivial
        · rintro kc m a w5 hkc ⟨hrd, hch, hcc, hbx⟩ hm hn
          obtain ⟨⟨p0, e0, m0, _⟩, ⟨_, e1, m1, p, g3, c3, rest3, rfl, hpf, hpo, hok⟩, -⟩ := hn
          obtain ⟨bx, rfl, hBx, hb⟩ := hbx.ready hm m0
          have f0 := hb.frozen 0
          have x0 : w5.cell? ⟨bx, 0, none⟩ = some (.int .i64 0) := (hb.cell _).trans rfl
          have f1 := hb.frozen 1
          have x1 : w5.cell? ⟨bx, 1, none⟩ = some (.slice none 0 0) := (hb.cell _).trans rfl
          have hs : Chg (· = bx) w5 ((w5.setCell ⟨bx, 0, none⟩ (.int .i64 x)).setCell ⟨bx, 1, none⟩ (.slice (some ⟨g3, 0, none⟩) 4 c3)) := (((Chg.refl (· = bx) w5).setCell (p := ⟨bx, 0, none⟩) (.inl rfl) _).setCell (p := ⟨bx, 1, none⟩) (.inl rfl) _)
          have hb' : Blk ((w5.setCell ⟨bx, 0, none⟩ (.int .i64 x)).setCell ⟨bx, 1, none⟩ (.slice (some ⟨g3, 0, none⟩) 4 c3)) bx 67 #[.int .i64 x, .slice (some ⟨g3, 0, none⟩) 4 c3] := ((hb.set_ 0 _).set_ 1 _)
          exact rg_skip (w' := ((w5.setCell ⟨bx, 0, none⟩ (.int .i64 x)).setCell ⟨bx, 1, none⟩ (.slice (some ⟨g3, 0, none⟩) 4 c3))) (by simp [execOp, go_sem, e0, e1, x0, x1, f0, f1]) rfl ⟨(hrd.chg hs (fun i hi he => by have := hgW; omega)).more (by omega), hch.own hs hBx, hkc, BoxI.store (by decide) (by decide) m0 hBx m1 hb'⟩ (RBox.box hs hBx hb) trivial
        · rintro kc m a w5 hkc ⟨hrd, hch, hcc, hbx⟩ hm hn
          obtain ⟨⟨_, e0, m0, z, rfl⟩, -⟩ := hn
          exact rg_val (v := .int .i64 z) (by simp [execOp, go_sem, e0]) rfl ⟨hrd.more (by omega), hch, hkc, hbx.keep (by decide) (by decide) hm (Chg.refl NoB _) (fun _ _ x => x)⟩ (Chg.refl _ _) ⟨z, rfl⟩
      rintro m w5 ⟨hrd, hch, -, hbx⟩
      simp only [AllVals]
      rintro q0 m0 p0 q1 m1 p1 q2 m2 p2 q3 m3 p3 q4 m4 p4 q5 m5 p5 q6 m6 p6 q7 m7 p7 q8 m8 p8 q9 m9 p9 q10 m10 p10 q11 m11 p11 q12 m12 p12
      obtain ⟨p, g3, c3, rest3, rfl, hpf, hpo, hok⟩ := p8
      obtain ⟨z, rfl⟩ := p12
      obtain ⟨bx, rfl, hBx, hb⟩ := hbx.done m10 m11 m8
      have b0 : w5.cell? ⟨bx, 0, none⟩ = some (.int .i64 x) := (hb.cell _).trans rfl
      have b1 : w5.cell? ⟨bx, 1, none⟩ = some (.slice (some ⟨g3, 0, none⟩) 4 c3) := (hb.cell _).trans rfl
      have hv5 := HV.out.chg hch (by show ¬ (V = g); omega)
      have HV5 := Lib.hid hv5
      have HR5 := Lib.hid hrd
      have HOK5 := Lib.hid hok
      have HCH := Lib.hid hch
      have HPP := Lib.hid (And.intro hpf hpo)
      have hnb1 : bx ≠ V := by omega
      have hnb2 : V ≠ bx := by omega
      clear v0 v1 vf0 vf1
      have v0 : w5.cell? ⟨V, 0, none⟩ = some (.int .i64 x) := (hv5.cell _).trans rfl
      have vf0 := hv5.frozen 0
      have v1 : w5.cell? ⟨V, 1, none⟩ = some (.slice (some ⟨gq, 0, none⟩) 4 cq) := (hv5.cell _).trans rfl
      have vf1 := hv5.frozen 1
      clear hv5 hrd hok hch hpf hpo hb hbx hBx
      clear p0 p1 p2 p3 p4 p5 p6 p7 p9 p10 p11
      simp only [Act.put, List.setIfInBounds_toArray, List.set_cons_succ, List.set_cons_zero]
      go_wp2_with fail
      go_roundw
      case rel =>
        have hcs := chg2' (F := (· = V)) (a := .int .i64 x) (b := .slice (some ⟨g3, 0, none⟩) 4 c3) (Chg.refl (· = V) w5) (.inl rfl)
        have hok := HOK5.out
        have hg3 : wr.heap.size ≤ g3 := hok.1
        have hsw := HC.out.size
        have hw := BkOk.write HBP.out HPP.out.2 HPP.out.1
        have hww := writeBlock_wear HBP.out HPP.out.2 HPP.out.1
        refine ⟨k - 1, M + 3 * 13, g3, c3, _, rest3, by omega, by go_num, by omega, HR5.out.chgBox hcs (by omega) HV5.out (by simp), ((HC.out.trans HCH.out).trans' hcs (fun i hi => .inr (by have h9 : i = V := hi; omega))), (HB.out.chg HCH.out (by omega)).chg hcs (by omega), ((HV5.out.set_ 0 _).set_ 1 _), Lib.hid ⟨by have := hw.1; rw [hww] at this; exact this, hw.2⟩, ?_⟩
        have hok2 := hok.chg hcs (by show ¬ (g3 = V); omega)
        exact hok2.more (by omega) (by simp [World.setCell])
      case measure => simp [intOf]; omega
    obtain rfl : k = 0 := by omega
    have hz : ¬ ((0 : Int) < ((0 : Nat) : Int)) := by omega
    go_wp2_with fail
    refine (odd_any g M n _ HR.out (by omega) hn0 hn).mono ?_
    rintro e w6 ⟨b6, rfl, -, hc6, hr6⟩
    clear v0 v1 vf0 vf1
    replace HV := Lib.hid (HV.out.chg hc6 (by show ¬ (V = g); omega))
    replace HC := Lib.hid (HC.out.trans hc6)
    replace HB := Lib.hid (HB.out.chg hc6 (by show ¬ (w.heap.size = g); omega))
    replace HBQ := Lib.hid (HBQ.out.chg hc6 (by show ¬ (gq = g); omega))
    clear hc6
    have HR6 := Lib.hid hr6
    cases b6
    case false =>
      have hvv := HV.out
      have v0 : w6.cell? ⟨V, 0, none⟩ = some (.int .i64 x) := (hvv.cell _).trans rfl
      have vf0 := hvv.frozen 0
      have v1 : w6.cell? ⟨V, 1, none⟩ = some (.slice (some ⟨gq, 0, none⟩) 4 cq) := (hvv.cell _).trans rfl
      have vf1 := hvv.frozen 1
      have hrr := HB.out
      have r0 : w6.cell? ⟨w.heap.size, 0, none⟩ = some (.int .i64 0) := (hrr.cell _).trans rfl
      have rf0 := hrr.frozen 0
      have r1 : w6.cell? ⟨w.heap.size, 1, none⟩ = some (.slice none 0 0) := (hrr.cell _).trans rfl
      have rf1 := hrr.frozen 1
      clear hvv hrr
      clear hr6
      go_wp2_with fail
      (try simp only [Exit.inBlock, Exit.then])
      refine bodyPost_ret (v := .agg #[.int .i64 x, .slice (some ⟨gq, 0, none⟩) 4 cq]) (by simp [results, Try.results121, go_sem, *]) rfl ?_
      exact (HEND w6 x _ 4 cq ps _ HC HB HR6 (by omega) (Lib.hid (blk_pgs HBQ.out hqB)) HLP hcq (Nat.le_refl _)).out
    go_wp2_with fail
    refine (pick_any g _ 4 _ hr6 (by omega) (by omega) (by omega)).mono ?_
    rintro e w7 ⟨k7', rfl, hk7', hc7, hr7⟩
    replace HV := Lib.hid (HV.out.chg hc7 (by show ¬ (V = g); omega))
    replace HC := Lib.hid (HC.out.trans hc7)
    replace HB := Lib.hid (HB.out.chg hc7 (by show ¬ (w.heap.size = g); omega))
    replace HBQ := Lib.hid (HBQ.out.chg hc7 (by show ¬ (gq = g); omega))
    clear hc7
    have hvv := HV.out
    have v0 : w7.cell? ⟨V, 0, none⟩ = some (.int .i64 x) := (hvv.cell _).trans rfl
    have vf0 := hvv.frozen 0
    have v1 : w7.cell? ⟨V, 1, none⟩ = some (.slice (some ⟨gq, 0, none⟩) 4 cq) := (hvv.cell _).trans rfl
    have vf1 := hvv.frozen 1
    have hrr := HB.out
    have r0 : w7.cell? ⟨w.heap.size, 0, none⟩ = some (.int .i64 0) := (hrr.cell _).trans rfl
    have rf0 := hrr.frozen 0
    have r1 : w7.cell? ⟨w.heap.size, 1, none⟩ = some (.slice none 0 0) := (hrr.cell _).trans rfl
    have rf1 := hrr.frozen 1
    clear hvv hrr
    have HR7 := Lib.hid hr7
    clear hr6 HR6
    by_cases h0 : k7' = 0
    · subst h0
      clear hr7
      go_wp2_with fail
      have hcl := (Chg.refl NoB w7).alloc (.cells #[.int .i64 (-1), .int .i64 101] 3)
      have hlb := Blk.new w7 3 #[.int .i64 (-1), .int .i64 101]
      refine (pick_any g _ 2 _ (HR7.out.alloc _) (by omega) (by omega) (by omega)).mono ?_
      rintro e w8 ⟨k2, rfl, hk2, hc8, hr8⟩
      have hg7 := HR7.out.lt
      obtain ⟨u, hu⟩ := lit_cell (hlb.chg hc8 (by omega)) k2 (by simp; omega) (fun v hv => by simp at hv; rcases hv with rfl | rfl <;> exact ⟨_, rfl⟩)
      have hk20 : (0 : Int) ≤ (k2 : Int) := Int.natCast_nonneg _
      have hcx : Chg (· = g) w7 w8 := (hcl.mono (G := (· = g)) (fun _ _ x => x.elim)).trans hc8
      have hVl7 := HV.out.lt
      have hs7 := HB.out.lt
      have hnl1 : w7.heap.size ≠ V := by omega
      have hnl2 : V ≠ w7.heap.size := by omega
      have hnl3 : w7.heap.size ≠ w.heap.size := by omega
      have hnl4 : w.heap.size ≠ w7.heap.size := by omega
      clear hcl hlb hc8 v0 v1 vf0 vf1 r0 r1 rf0 rf1
      replace HV := Lib.hid (HV.out.chg hcx (by show ¬ (V = g); omega))
      replace HC := Lib.hid (HC.out.trans hcx)
      replace HB := Lib.hid (HB.out.chg hcx (by show ¬ (w.heap.size = g); omega))
      replace HBQ := Lib.hid (HBQ.out.chg hcx (by show ¬ (gq = g); omega))
      clear hcx
      have hvv := HV.out
      have v0 : w8.cell? ⟨V, 0, none⟩ = some (.int .i64 x) := (hvv.cell _).trans rfl
      have vf0 := hvv.frozen 0
      have v1 : w8.cell? ⟨V, 1, none⟩ = some (.slice (some ⟨gq, 0, none⟩) 4 cq) := (hvv.cell _).trans rfl
      have vf1 := hvv.frozen 1
      have hrr := HB.out
      have r0 : w8.cell? ⟨w.heap.size, 0, none⟩ = some (.int .i64 0) := (hrr.cell _).trans rfl
      have rf0 := hrr.frozen 0
      have r1 : w8.cell? ⟨w.heap.size, 1, none⟩ = some (.slice none 0 0) := (hrr.cell _).trans rfl
      have rf1 := hrr.frozen 1
      clear hvv hrr
      have HR8 := Lib.hid hr8
      clear hr8
      go_wp2_with fail
      (try simp only [Exit.inBlock, Exit.then])
      refine bodyPost_ret (v := .agg #[.int .i64 u, .slice (some ⟨gq, 0, none⟩) 4 cq]) (by simp [results, Try.results121, go_sem, *]) rfl ?_
      have hcv : Chg (· = V) w8 (w8.setCell ⟨V, 0, none⟩ (.int .i64 u)) := (Chg.refl (· = V) w8).setCell (p := ⟨V, 0, none⟩) (.inl rfl) _
      exact (HEND _ u _ 4 cq ps _ (Lib.hid (HC.out.trans' hcv (fun i hi => .inr (by have h9 : i = V := hi; omega)))) (Lib.hid (HB.out.chg hcv (by show ¬ (w.heap.size = V); omega))) (Lib.hid (HR8.out.chgBox hcv (by omega) HV.out (by simp))) (by omega) (Lib.hid (blk_pgs (HBQ.out.chg hcv (by show ¬ (gq = V); omega)) hqB)) HLP hcq (Nat.le_refl _)).out
    have hne0 : ((k7' : Int) == 0) = false := beq_eq_false_iff_ne.2 (by omega)
    by_cases h1 : k7' = 1
    · subst h1
      have hcne : ¬ cq = 1 := by omega
      have hc1 : 1 ≤ cq := by omega
      clear hr7 h0
      go_wp2_with fail
      (try simp only [Exit.inBlock, Exit.then])
      refine bodyPost_ret (v := .agg #[.int .i64 x, .slice (some ⟨gq, 5, none⟩) 3 (cq - 1)]) (by simp [results, Try.results121, go_sem, *]) rfl ?_
      have hcv : Chg (· = V) w7 (w7.setCell ⟨V, 1, none⟩ (.slice (some ⟨gq, 5, none⟩) 3 (cq - 1))) := (Chg.refl (· = V) w7).setCell (p := ⟨V, 1, none⟩) (.inl rfl) _
      obtain ⟨p0, p1, p2, p3, rfl⟩ := four_pgs HLP.out
      refine (HEND _ x _ 3 (cq - 1) [p1, p2, p3] _ (Lib.hid (HC.out.trans' hcv (fun i hi => .inr (by have h9 : i = V := hi; omega)))) (Lib.hid (HB.out.chg hcv (by show ¬ (w.heap.size = V); omega))) (Lib.hid (HR7.out.chgBox hcv (by omega) HV.out (by simp))) (by omega) (Lib.hid ?_) (Lib.hid rfl) (by omega) (by omega)).out
      exact blk_pgs_tail (HBQ.out.chg hcv (by show ¬ (gq = V); omega)) hqB
    have hne1 : ((k7' : Int) == 1) = false := beq_eq_false_iff_ne.2 (by omega)
    by_cases h2 : k7' = 2
    · subst h2
      obtain ⟨p0, p1, p2, p3, rfl⟩ := four_pgs HLP.out
      have hbb := HBQ.out
      have a0 : w7.cell? ⟨gq, 0, none⟩ = some (.bool p0.full) := (hbb.cell _).trans rfl
      have af0 := hbb.frozen 0
      have a1 : w7.cell? ⟨gq, 1, none⟩ = some (.int .i64 p0.file) := (hbb.cell _).trans rfl
      have af1 := hbb.frozen 1
      have a2 : w7.cell? ⟨gq, 2, none⟩ = some (.int .i64 p0.place) := (hbb.cell _).trans rfl
      have af2 := hbb.frozen 2
      have a3 : w7.cell? ⟨gq, 3, none⟩ = some (.int .i64 p0.value) := (hbb.cell _).trans rfl
      have af3 := hbb.frozen 3
      have a4 : w7.cell? ⟨gq, 4, none⟩ = some (.int .i64 p0.stamp) := (hbb.cell _).trans rfl
      have af4 := hbb.frozen 4
      have a5 : w7.cell? ⟨gq, 5, none⟩ = some (.bool p1.full) := (hbb.cell _).trans rfl
      have af5 := hbb.frozen 5
      have a6 : w7.cell? ⟨gq, 6, none⟩ = some (.int .i64 p1.file) := (hbb.cell _).trans rfl
      have af6 := hbb.frozen 6
      have a7 : w7.cell? ⟨gq, 7, none⟩ = some (.int .i64 p1.place) := (hbb.cell _).trans rfl
      have af7 := hbb.frozen 7
      have a8 : w7.cell? ⟨gq, 8, none⟩ = some (.int .i64 p1.value) := (hbb.cell _).trans rfl
      have af8 := hbb.frozen 8
      have a9 : w7.cell? ⟨gq, 9, none⟩ = some (.int .i64 p1.stamp) := (hbb.cell _).trans rfl
      have af9 := hbb.frozen 9
      have hf1 := Blk.fill5 (A := []) (R := pcells p1 ++ (pcells p2 ++ (pcells p3 ++ rest))) hbb rfl (.bool false) (.int .i64 0) (.int .i64 0) (.int .i64 0) (.int .i64 0)
      have hf2 := Blk.fill5 (A := pcells zPg) (R := pcells p2 ++ (pcells p3 ++ rest)) hf1 rfl (.bool true) (.int .i64 0) (.int .i64 0) (.int .i64 0) (.int .i64 1)
      have HF2 := Lib.hid hf2
      clear hbb hf1 hf2 hr7 h0 h1 hne0 hne1
      go_wp2_with fail
      (try simp only [Exit.inBlock, Exit.then])
      refine bodyPost_ret (v := .agg #[.int .i64 x, .slice (some ⟨gq, 0, none⟩) 4 cq]) (by simp [results, Try.results121, go_sem, *]) rfl ?_
      have hcv := chg5k (F := (· = gq)) (a := .bool true) (b := .int .i64 0) (c := .int .i64 0) (d := .int .i64 0) (e := .int .i64 1) (chg5k (F := (· = gq)) (a := .bool false) (b := .int .i64 0) (c := .int .i64 0) (d := .int .i64 0) (e := .int .i64 0) (Chg.refl (· = gq) w7) (.inl rfl) 0) (.inl rfl) 5
      exact (HEND _ x _ 4 cq [zPg, ⟨true, 0, 0, 0, 1⟩, p2, p3] _ (Lib.hid (HC.out.trans' hcv (fun i hi => .inr (by have h9 : i = gq := hi; omega)))) (Lib.hid (HB.out.chg hcv (by show ¬ (w.heap.size = gq); omega))) (Lib.hid (HR7.out.chg hcv (fun i hi he => by have h9 : i = gq := he; omega))) (by omega) (Lib.hid (blk_pgs (ps := [zPg, ⟨true, 0, 0, 0, 1⟩, p2, p3]) (rest := rest) HF2.out hqB)) (Lib.hid rfl) hcq (Nat.le_refl _)).out
    have hne2 : ((k7' : Int) == 2) = false := beq_eq_false_iff_ne.2 (by omega)
    have HK0 := Lib.hid (HR7.out)
    clear hr7 h0 h1 h2
    go_wp2_with fail
    go_region_held3 (fun w' => w'.cell? ⟨V, 1, none⟩ = some (.slice (some ⟨gq, 0, none⟩) 4 cq))
      (first | go_keep | exact ((HV.out.chg (F := (· = g)) (by first | exact (Chg.refl (· = g) w7).drew.trans hcc | exact ((Chg.refl (· = g) w7).drew.trans HK1.out).trans hcc) (by show ¬ (V = g); omega)).cell _).trans rfl)
      (first
        | (go_at_call 63; refine (pick_any g _ 4 _ HR7.out.drew (by omega) (by omega) (by omega)).mono ?_; rintro e' w8 ⟨j4, rfl, hj4, hcc, hr8⟩; have HK1 := Lib.hid hcc; have HR8 := Lib.hid hr8; have hj40 : (0 : Int) ≤ (j4 : Int) := Int.natCast_nonneg _; clear hr8)
        | (go_at_call 156; refine (l20Page_any g _ 1 _ HR8.out (by omega) (by omega) (by omega)).mono ?_; rintro e' w9 ⟨⟨pf, pi, pl, pv, pt⟩, rfl, hcc, hr9⟩
           have hk := ((Chg.refl (· = g) w7).drew.trans HK1.out).trans hcc
           have hjp : j4 < ps.length := by rw [HLP.out]; omega
           have hbb := HBQ.out.chg hk (by show ¬ (gq = g); omega)
           have hlen : (pgs (ps.take j4)).length = j4 * 5 := by rw [pgs_length, List.length_take]; omega
           rw [pgs_split hjp, List.append_assoc] at hbb
           obtain ⟨s0, s1, s2, s3, s4⟩ := hbb.room5 hlen
           have sf0 := hbb.frozen (j4 * 5)
           have sf1 := hbb.frozen (j4 * 5 + 1)
           have sf2 := hbb.frozen (j4 * 5 + 2)
           have sf3 := hbb.frozen (j4 * 5 + 3)
           have sf4 := hbb.frozen (j4 * 5 + 4)
           have HF := Lib.hid (hbb.fill5 hlen (.bool pf) (.int .i64 pi) (.int .i64 pl) (.int .i64 pv) (.int .i64 pt))
           have HJP := Lib.hid hjp
           have HK := Lib.hid hk
           have HR9 := Lib.hid hr9
           clear hk hbb hr9 hlen))
    rename_i hh
    clear hh hcc v0 v1 vf0 vf1 r0 r1 rf0 rf1 HR8
    have hk := HK.out
    replace HV := Lib.hid (HV.out.chg hk (by show ¬ (V = g); omega))
    replace HC := Lib.hid (HC.out.trans hk)
    replace HB := Lib.hid (HB.out.chg hk (by show ¬ (w.heap.size = g); omega))
    replace HBQ := Lib.hid (HBQ.out.chg hk (by show ¬ (gq = g); omega))
    clear hk
    have hcv := chg5k (F := (· = gq)) (a := .bool pf) (b := .int .i64 pi) (c := .int .i64 pl) (d := .int .i64 pv) (e := .int .i64 pt) (Chg.refl (· = gq) w9) (.inl rfl) (j4 * 5)
    have HF2 := Lib.hid (show Blk _ gq 80 (pgs (ps.set j4 ⟨pf, pi, pl, pv, pt⟩) ++ rest).toArray by rw [pgs_set HJP.out, List.append_assoc]; exact HF.out)
    obtain ⟨wz, hwz⟩ : ∃ wz, (((((w9.setCell ⟨gq, j4 * 5, none⟩ (.bool pf)).setCell ⟨gq, j4 * 5 + 1, none⟩ (.int .i64 pi)).setCell ⟨gq, j4 * 5 + 2, none⟩ (.int .i64 pl)).setCell ⟨gq, j4 * 5 + 3, none⟩ (.int .i64 pv)).setCell ⟨gq, j4 * 5 + 4, none⟩ (.int .i64 pt)) = wz := ⟨_, rfl⟩
    have hf2 := HF2.out
    rw [hwz] at hcv hf2 ⊢
    replace HV := Lib.hid (HV.out.chg hcv (by show ¬ (V = gq); omega))
    replace HB := Lib.hid (HB.out.chg hcv (by show ¬ (w.heap.size = gq); omega))
    have HCZ := Lib.hid (HC.out.trans' hcv (fun i hi => .inr (by have h9 : i = gq := hi; omega)))
    have HRZ := Lib.hid (HR9.out.chg hcv (fun i hi he => by have h9 : i = gq := he; omega))
    have HFZ := Lib.hid hf2
    clear hcv hf2 hwz s0 s1 s2 s3 s4 sf0 sf1 sf2 sf3 sf4 HF HF2
    have hvv := HV.out
    have v0 : wz.cell? ⟨V, 0, none⟩ = some (.int .i64 x) := (hvv.cell _).trans rfl
    have vf0 := hvv.frozen 0
    have v1 : wz.cell? ⟨V, 1, none⟩ = some (.slice (some ⟨gq, 0, none⟩) 4 cq) := (hvv.cell _).trans rfl
    have vf1 := hvv.frozen 1
    have hrr := HB.out
    have r0 : wz.cell? ⟨w.heap.size, 0, none⟩ = some (.int .i64 0) := (hrr.cell _).trans rfl
    have rf0 := hrr.frozen 0
    have r1 : wz.cell? ⟨w.heap.size, 1, none⟩ = some (.slice none 0 0) := (hrr.cell _).trans rfl
    have rf1 := hrr.frozen 1
    clear hvv hrr
    go_wp2_with fail
    (try simp only [Exit.inBlock, Exit.then])
    refine bodyPost_ret (v := .agg #[.int .i64 x, .slice (some ⟨gq, 0, none⟩) 4 cq]) (by simp [results, Try.results121, go_sem, *]) rfl ?_
    exact (HEND wz x _ 4 cq (ps.set j4 ⟨pf, pi, pl, pv, pt⟩) _ HCZ HB HRZ (by omega) (Lib.hid (blk_pgs HFZ.out hqB)) (Lib.hid (by rw [List.length_set]; exact HLP.out)) hcq (Nat.le_refl _)).out
end Go.Proofs.Ytpiojofmflfkkaa
/- The draw of a device. -/
namespace Go.Proofs.Ytpiojofmflfkkaa
open Go.RowKit
theorem ty_block_heads : (67 : Nat) ≠ 46 := by decide
theorem ty_page_heads : (80 : Nat) ≠ 46 := by decide
theorem dev_box {G : Nat → Prop} {B B' : Nat} {w w' : World} {A : Option Addr} {c : Nat} {T : List BkO} (h : DevQ B w.heap.size w A c T) (hR : RBox G B' 46 w w') (hG : ∀ k, B ≤ k → ¬ G k) : DevQ B w'.heap.size w' A c T := by
  have hs := hR.chg.size
  refine ⟨⟨⟨h.1.1.1, ?_⟩, ⟨fun r hr => ?_, h.1.2.2⟩⟩, fun hT => ?_⟩
  · rcases h.1.1.2 with h0 | ⟨g, rest, e, hg, hE, hb⟩
    · exact .inl h0
    · exact .inr ⟨g, rest, e, hg, by omega, hR.blk hb (hG _ hg) (.inr ty_block_heads)⟩
  · obtain ⟨h1, h2, h3, h4⟩ := h.1.2.1 r hr
    exact ⟨h1, by omega, hR.blk h3 (hG _ h1) (.inr ty_page_heads), h4⟩
  · obtain ⟨g', rest, e1, hg, hE, -⟩ := h.blk hT
    obtain ⟨hm, g, cs, e, hb, hs⟩ := h.2 hT
    rw [e] at e1
    injection e1 with e1
    injection e1 with e1
    exact ⟨hm, g, cs, e, hR.blk hb (hG _ (by omega)) (.inr ty_block_heads), hs⟩
def setW (r : BkO) (x : Int) : BkO := ⟨r.g, r.c, x, r.ps, r.rest⟩
theorem DevQ.setWear {B E : Nat} {w : World} {g c k : Nat} {T : List BkO} {rest : List Value} (h : DevQ B E w (some ⟨g, 0, none⟩) c T) (hb : Blk w g 67 (bcells T ++ rest).toArray) (hg : B ≤ g ∧ g < E) (hk : k < T.length) (x : Int) :
    DevQ B E (w.setCell ⟨g, k * 2, none⟩ (.int .i64 x)) (some ⟨g, 0, none⟩) c (T.set k (setW T[k] x)) := by
  have hl : (bcells (T.take k)).length = k * 2 := by rw [bcells_length, List.length_take]; omega
  have hb0 := hb
  rw [bcells_split hk, List.append_assoc] at hb
  have hf := hb.fill1 hl (.int .i64 x)
  have hc : Chg (· = g) w (w.setCell ⟨g, k * 2, none⟩ (.int .i64 x)) := (Chg.refl (· = g) w).setCell (p := ⟨g, k * 2, none⟩) (.inl rfl) _
  have hn := h.1.2.head hb hc
  refine ⟨⟨⟨by rw [List.length_set]; exact h.1.1.1, .inr ⟨g, rest, rfl, hg.1, hg.2, ?_⟩⟩, ⟨fun r hr => ?_, ?_⟩⟩, fun _ => ?_⟩
  · rw [bcells_set hk, List.append_assoc]
    exact hf
  · rcases List.mem_or_eq_of_mem_set hr with h1 | rfl
    · exact hn.1 r h1
    · exact hn.1 T[k] (List.getElem_mem hk)
  · have e : (T.set k (setW T[k] x)).map (·.g) = T.map (·.g) := by
      rw [List.map_set]
      show (T.map (·.g)).set k T[k].g = _
      have : (T.map (·.g))[k]'(by simpa using hk) = T[k].g := by simp
      rw [← this, List.set_getElem_self]
    rw [e]; exact h.1.2.2
  · obtain ⟨hm, g', cs, e, hb2, hs⟩ := h.2 (by omega)
    injection e with e
    injection e with e
    subst e
    exact ⟨hm, g, _, rfl, hb2.set_ (k * 2) _, by simpa using hs⟩
theorem devR_snoc {B E : Nat} {w : World} {v : Value} {n : Nat} {T : List BkO} {b : Bk} {A' : Option Addr} {c' : Nat} (ho : w.ownsRow B 67 2 v n (bcells T ++ [.int .i64 b.wear, .slice A' b.pages.length c'])) (hR : BksO B E w T) (hb : Rd (fun i => B ≤ i) w A' (pgs b.pages)) (hc : b.pages.length ≤ c') :
    ∃ A c, v = .slice A n c ∧ n ≤ c ∧ DevR (fun i => B ≤ i) w A (bksOf T ++ [b]) := by
  obtain ⟨A, c, rfl, hnc, hrd⟩ := own_rd ho
  refine ⟨A, c, rfl, hnc, fun k hk => ?_⟩
  have hl : (bksOf T ++ [b]).length = T.length + 1 := by rw [List.length_append, bksOf_length]; rfl
  let L : List (Value × Value) := (T.map fun r => (Value.int .i64 r.wear, Value.slice (some ⟨r.g, 0, none⟩) r.ps.length r.c)) ++ [(Value.int .i64 b.wear, Value.slice A' b.pages.length c')]
  have hL : bcells T ++ [.int .i64 b.wear, .slice A' b.pages.length c'] = L.flatMap fun p => [p.1, p.2] := by
    show _ = ((T.map fun r => (Value.int .i64 r.wear, Value.slice (some ⟨r.g, 0, none⟩) r.ps.length r.c)) ++ [(Value.int .i64 b.wear, Value.slice A' b.pages.length c')]).flatMap _
    rw [List.flatMap_append, List.flatMap_map]
    rfl
  rw [hL] at hrd
  have hkL : k < L.length := by show k < (_ ++ _ : List _).length; simp; omega
  obtain ⟨bb, o, e, hf, _, hcell⟩ := Rd.flat (enc := fun p : Value × Value => [p.1, p.2]) (m := 2) (fun _ => rfl) hrd hkL (by omega)
  have h0 := hcell 0 _ rfl
  have h1 := hcell 1 _ rfl
  by_cases hkT : k < T.length
  · have e1 : (bksOf T ++ [b])[k] = T[k].bk := by
      rw [List.getElem_append_left (by rw [bksOf_length]; exact hkT)]
      simp [bksOf]
    have e2 : L[k] = (Value.int .i64 T[k].wear, Value.slice (some ⟨T[k].g, 0, none⟩) T[k].ps.length T[k].c) := by
      show (_ ++ _ : List _)[k]'_ = _
      rw [List.getElem_append_left (by simpa using hkT)]
      simp
    rw [e1]
    rw [e2] at h0 h1
    have hok := hR.1 T[k] (List.getElem_mem hkT)
    exact ⟨bb, o, _, _, e, hf, h0, h1, hok.rd.mono (fun i _ hi => hi.1), hok.2.2.2⟩
  · have e1 : (bksOf T ++ [b])[k] = b := by
      rw [List.getElem_append_right (by rw [bksOf_length]; omega)]
      simp
    have e2 : L[k] = (Value.int .i64 b.wear, Value.slice A' b.pages.length c') := by
      show (_ ++ _ : List _)[k]'_ = _
      rw [List.getElem_append_right (by simp; omega)]
      simp
    rw [e1]
    rw [e2] at h0 h1
    exact ⟨bb, o, _, _, e, hf, h0, h1, hb, hc⟩
def DHDrawn (g N : Nat) (w : World) (e : Ending) (w' : World) : Prop :=
  ∃ A c D h, e = .returned (.tuple #[.slice A (D : List Bk).length c, hval h]) ∧ DevR (fun i => w.heap.size ≤ i) w' A D ∧ D.length ≤ c ∧ D.length ≤ 13 ∧ (∀ b ∈ D, b.pages.length ≤ 4) ∧ Chg (· = g) w w' ∧ Rdr w' g N
def slLen : Value → Nat
  | .slice _ n _ => n
  | _ => 0
theorem mem_bksOf {T : List BkO} {n : Nat} (h : ∀ r ∈ T, r.ps.length = n) : ∀ b ∈ bksOf T, b.pages.length ≤ n := fun b hb => by
  obtain ⟨r, hr, rfl⟩ := List.mem_map.1 hb
  exact Nat.le_of_eq (h r hr)
theorem ps_four {T : List BkO} (h : DvOk (bksOf T)) : ∀ r ∈ T, r.ps.length = 4 := fun r hr => by
  obtain ⟨k, hk, rfl⟩ := List.getElem_of_mem hr
  have := (h.2 k (by rw [bksOf_length]; exact hk)).2.1
  rwa [bksOf_get] at this
set_option maxRecDepth 100000 in
set_option maxHeartbeats 8000000 in
theorem l20Device_any (g N : Nat) (n : Int) (w : World) (h : Rdr w g N) (hN : N ≤ 10000) (hn0 : 0 ≤ n) (hn : n ≤ 1000000) :
    Calls Try.prog 61 #[.pointer (some ⟨g, 0, none⟩), .int .i64 n] w (DHDrawn g (N + 4000) w) := by
  obtain ⟨i0, hi, hz0, hz1, hz2⟩ := info_parts info_block
  have hg := h.lt
  have hca := (Chg.refl NoB w).alloc (.cells #[.int .i64 0, .int .i64 0, .int .i64 0] 46)
  have HB0 := Lib.hid (Blk.new w 46 #[.int .i64 0, .int .i64 0, .int .i64 0])
  have HC0 := Lib.hid (hca.mono (G := (· = g)) (fun _ _ x => x.elim))
  have hr0 := h.alloc (.cells #[.int .i64 0, .int .i64 0, .int .i64 0] 46)
  clear hca h
  have HEND : ∀ wq A (l : Nat) c D (hh : Hd) M, Hid (Chg (· = g) w wq) → Hid (Blk wq w.heap.size 46 #[.int .i64 0, .int .i64 0, .int .i64 0]) → Hid (Rdr wq g M) → M ≤ N + 4000 → Hid (DevR (fun i => w.heap.size + 1 ≤ i) wq A D) → Hid (D.length = l) → l ≤ c → l ≤ 13 → Hid (∀ b ∈ D, b.pages.length ≤ 4) →
      Hid (DHDrawn g (N + 4000) w (.returned (.tuple #[.slice A l c, hval hh])) (((wq.setCell ⟨w.heap.size, 0, none⟩ (.int .i64 hh.hot)).setCell ⟨w.heap.size, 1, none⟩ (.int .i64 hh.warm)).setCell ⟨w.heap.size, 2, none⟩ (.int .i64 hh.cold)).drew) := by
    intro wq A l c D hh M h1 h2 h3 hM hrd hl hlc h13 h4
    have hcs := chg3h (F := (· = w.heap.size)) (g := w.heap.size) (a := .int .i64 hh.hot) (b := .int .i64 hh.warm) (c := .int .i64 hh.cold) (Chg.refl (· = w.heap.size) wq) (.inl rfl)
    have hl' := hl.out
    subst hl'
    exact Lib.hid ⟨A, c, D, hh, rfl, ((hrd.out.chg hcs (fun i hi he => by have h9 : i = w.heap.size := he; omega)).mono (fun i _ hi => by omega)).new (Chg.refl NoB _).drew, hlc, h13, h4.out, (h1.out.trans' hcs (fun i hi => .inr (by rw [show i = w.heap.size from hi]; exact Nat.le_refl _))).drew, ((h3.out.chgBox hcs (by omega) h2.out (by simp)).more hM).drew⟩
  go_enter Try.func61, Try.ntmps61
  go_wp2_with fail
  refine (pick_any g N 4 _ hr0 (by omega) (by omega) (by omega)).mono ?_
  rintro e w1 ⟨k4, rfl, hk4, hc1, hr1⟩
  have HC1 := Lib.hid (HC0.out.trans hc1)
  have HB1 := Lib.hid (HB0.out.chg hc1 (by omega))
  have hs1 := HB1.out.lt
  have hg1 := hr1.lt
  clear hc1 hr0
  go_wp2_with fail
  refine (sNewDevice_any ((2 : Int) + (k4 : Int)) _).mono ?_
  rintro e w2 ⟨A2, c2, T2, rfl, hT2, hO2, hc2⟩
  obtain ⟨d0, hd0⟩ : ∃ d0 : Nat, k4 + 2 = d0 := ⟨_, rfl⟩
  rw [show (2 : Int) + (k4 : Int) = ((d0 : Nat) : Int) by omega] at hT2 ⊢
  have hD0 := newDv_ok (n := d0) (by omega)
  have hL0 := newDv_len (n := d0) (by omega)
  have hd5 : 2 ≤ d0 ∧ d0 ≤ 5 := by omega
  have hca := (Chg.refl NoB w2).alloc (.cells #[.int .i64 (-1), .int .i64 (-1), .int .i64 (-1)] 46)
  have hv3 := Blk.new w2 46 #[.int .i64 (-1), .int .i64 (-1), .int .i64 (-1)]
  have hc3 := HC1.out.trans' (hc2.trans hca) (fun _ x => x.elim)
  have hb3 := HB1.out.chg (hc2.trans hca) (fun x => x)
  have hr3 := hr1.chg (hc2.trans hca) (fun _ _ x => x)
  have ho3 := (hO2.new hca).more (show w.heap.size + 1 ≤ w1.heap.size by omega) hca.size
  have hVW : w.heap.size < w2.heap.size := by have := hc2.size; omega
  clear hd0 hk4 hr1 HC1 HB1 HC0 HB0
  go_wp2_with fail
  obtain ⟨V, hV⟩ : ∃ V, w2.heap.size = V := ⟨_, rfl⟩
  obtain ⟨w3, hw3⟩ : ∃ w3, w2.alloc (.cells #[.int .i64 (-1), .int .i64 (-1), .int .i64 (-1)] 46) = w3 := ⟨_, rfl⟩
  rw [hw3] at hv3 hc3 hb3 hr3 ho3 ⊢
  rw [hV] at hv3 hVW ⊢
  clear hca hc2 hO2 hw3 hV
  refine (pick_any g _ 20 _ hr3 (by omega) (by omega) (by omega)).mono ?_
  rintro e w4 ⟨k20, rfl, hk20, hc4, hr4⟩
  have hgV : g < V := by omega
  have HV4 := Lib.hid (hv3.chg hc4 (by omega))
  have HC4 := Lib.hid (hc3.trans hc4)
  have HB4 := Lib.hid (hb3.chg hc4 (by omega))
  have HO4 := Lib.hid ((ho3.chg hc4 (fun i h1 h2 h3 => by have h9 : i = g := h3; omega)).more (Nat.le_refl _) hc4.size)
  have HT4 := Lib.hid hT2
  have HH4 := Lib.hid (show HeadsOk (newDevice (d0 : Int)) ⟨-1, -1, -1⟩ from ⟨hD0, by unfold HdOk; simp only; omega⟩)
  have HL4 := Lib.hid hL0
  clear hv3 hc3 hb3 hr3 ho3 hc4 hT2 hD0 hL0
  go_wp2_with fail
  go_loopw [6, 8, 9] (fun v s i wr => ∃ (k q M c : Nat) (A : Option Addr) (T : List BkO) (hh : Hd) (D : List Bk), v = .slice A D.length c ∧ s = .int .i64 q ∧ i = .int .i64 k ∧ 1 ≤ q ∧ q + k ≤ 20 ∧ M + 80 * k ≤ N + 1700 ∧ Rdr wr g M ∧ Chg (· = g) w wr ∧ Blk wr w.heap.size 46 #[.int .i64 0, .int .i64 0, .int .i64 0] ∧ Blk wr V 46 #[.int .i64 hh.hot, .int .i64 hh.warm, .int .i64 hh.cold] ∧ Hid (HeadsOk D hh) ∧ Hid (bksOf T = D) ∧ DevQ (w.heap.size + 1) wr.heap.size wr A c T ∧ 2 ≤ D.length ∧ D.length ≤ 5) (fun _ _ i _ => (intOf i).toNat)
  case atStart => exact ⟨k20, 1, _, c2, A2, T2, ⟨-1, -1, -1⟩, _, by rw [HL4.out], rfl, rfl, by omega, by omega, by omega, hr4, HC4.out, HB4.out, HV4.out, HH4, HT4, HO4.out, by rw [HL4.out]; exact hd5.1, by rw [HL4.out]; exact hd5.2⟩
  case round =>
    obtain ⟨k, q, M, c, A, T, hh, D, rfl, rfl, rfl, hq1, hqk, hM, hr, hch, hb0, hbv, HHO, HTD, hdq, hD2, hD5⟩ := hrel
    have hgW := hr.lt
    have hVl := hbv.lt
    have hwV1 : w.heap.size ≠ V := by omega
    have hwV2 : V ≠ w.heap.size := by omega
    have HR := Lib.hid hr
    have HC := Lib.hid hch
    have HB := Lib.hid hb0
    have HV := Lib.hid hbv
    have HQ := Lib.hid hdq
    have hrd := hdq.reads
    rw [HTD.out] at hrd
    have HRD := Lib.hid hrd
    have HVW := Lib.hid hVW
    clear hr4 HV4 HC4 HB4 HO4 HT4 HH4 HL4 hd5 hr hch hb0 hdq hrd
    by_cases hk0 : 0 < k
    · have hk1 : (0 : Int) < (k : Int) := by omega
      have v0 : wr.cell? ⟨V, 0, none⟩ = some (.int .i64 hh.hot) := (hbv.cell _).trans rfl
      have vf0 := hbv.frozen 0
      have v1 : wr.cell? ⟨V, 1, none⟩ = some (.int .i64 hh.warm) := (hbv.cell _).trans rfl
      have vf1 := hbv.frozen 1
      have v2 : wr.cell? ⟨V, 2, none⟩ = some (.int .i64 hh.cold) := (hbv.cell _).trans rfl
      have vf2 := hbv.frozen 2
      have hq0 : (1 : Int) ≤ (q : Int) := by omega
      have hq20 : (q : Int) ≤ 20 := by omega
      clear hbv
      go_wp2_with fail
      refine wp_region_rg (WInv := fun cc m w5 => Rdr w5 g (M + 4 * cc) ∧ Chg ((· = g)) wr w5 ∧ cc ≤ 16 ∧ BoxI wr.heap.size 46 #[.int .i64 0, .int .i64 0, .int .i64 0] 12 14 10 m w5) (R := RBox ((· = g)) wr.heap.size 46) (Post := PL [fun v w => v = .slice A D.length c, fun v w => v = hval hh, fun v w => v = .pointer (some ⟨g, 0, none⟩), fun v w => ∃ nn : Nat, v = .int .i64 (nn : Int) ∧ nn < 3, fun v w => v = .pointer (some ⟨g, 0, none⟩), fun v w => v = .int .i64 (q : Int), fun v w => ∃ p : Pg, v = pval p ∧ p.full = true ∧ PgOk p, fun v w => ∃ A7 : Option Addr, ∃ c7 : Nat, ∃ T7 : List BkO, ∃ h7 : Hd, ∃ z7 : Int, v = .tuple #[.slice A7 D.length c7, hval h7, .int .i64 z7] ∧ DvOk (bksOf T7) ∧ T7.length = D.length ∧ DevQ wr.heap.size w.heap.size w A7 c7 T7 ∧ HdOk D.length h7, fun v w => ∃ A7 : Option Addr, ∃ c7 : Nat, ∃ T7 : List BkO, ∃ h7 : Hd, ∃ z7 : Int, v = .tuple #[.slice A7 D.length c7, hval h7, .int .i64 z7] ∧ DvOk (bksOf T7) ∧ T7.length = D.length ∧ DevQ wr.heap.size w.heap.size w A7 c7 T7 ∧ HdOk D.length h7, fun v w => ∃ A7 : Option Addr, ∃ c7 : Nat, ∃ T7 : List BkO, v = .slice A7 D.length c7 ∧ DvOk (bksOf T7) ∧ T7.length = D.length ∧ DevQ wr.heap.size w.heap.size w A7 c7 T7, fun v w => ∃ h7 : Hd, v = hval h7 ∧ HdOk D.length h7, fun v w => ∃ z7 : Int, v = .int .i64 z7, fun _ _ => True, fun v w => ∃ A7 : Option Addr, ∃ c7 : Nat, ∃ T7 : List BkO, v = .slice A7 D.length c7 ∧ DvOk (bksOf T7) ∧ T7.length = D.length ∧ DevQ wr.heap.size w.heap.size w A7 c7 T7, fun _ _ => True, fun v w => ∃ z7 : Int, v = .int .i64 z7]) (by kernel_rfl) (by kernel_rfl) ?_ (pl_stab ⟨(fun _ _ _ h _ => h), (fun _ _ _ h _ => h), (fun _ _ _ h _ => h), (fun _ _ _ h _ => h), (fun _ _ _ h _ => h), (fun _ _ _ h _ => h), (fun _ _ _ h _ => h), (fun _ _ _ ⟨A7, c7, T7, h7, z7, hv, hdv, hln, hdq, hho⟩ hR => ⟨A7, c7, T7, h7, z7, hv, hdv, hln, (dev_box hdq hR (fun i hi he => by have h9 : i = g := he; omega)), hho⟩), (fun _ _ _ ⟨A7, c7, T7, h7, z7, hv, hdv, hln, hdq, hho⟩ hR => ⟨A7, c7, T7, h7, z7, hv, hdv, hln, (dev_box hdq hR (fun i hi he => by have h9 : i = g := he; omega)), hho⟩), (fun _ _ _ ⟨A7, c7, T7, hv, hdv, hln, hdq⟩ hR => ⟨A7, c7, T7, hv, hdv, hln, (dev_box hdq hR (fun i hi he => by have h9 : i = g := he; omega))⟩), (fun _ _ _ h _ => h), (fun _ _ _ h _ => h), (fun _ _ _ _ _ => trivial), (fun _ _ _ ⟨A7, c7, T7, hv, hdv, hln, hdq⟩ hR => ⟨A7, c7, T7, hv, hdv, hln, (dev_box hdq hR (fun i hi he => by have h9 : i = g := he; omega))⟩), (fun _ _ _ _ _ => trivial), (fun _ _ _ h _ => h), trivial⟩) ⟨(HR.out.drew).more (by omega), (Chg.refl _ _).drew, Nat.zero_le _, BoxI.start⟩ ?_ ?_
      · rintro c c' m w ⟨h1, h2, _, h5⟩ h3 h4
        exact ⟨h1.more (by omega), h2, h4, h5⟩
      · refine ⟨?_, ?_, ?_, ?_, ?_, ?_, ?_, ?_, ?_, ?_, ?_, ?_, ?_, ?_, ?_, ?_, trivial⟩
        · rintro kc m a w5 hkc ⟨hrd, hch, hcc, hbx⟩ hm hn
          obtain ⟨h0, -⟩ := hn
          have e0 : a.tmps[6]?.getD undef = .slice A D.length c := h0
          exact rg_val (v := .slice A D.length c) (by simp [execOp, go_sem, e0]) rfl ⟨hrd.more (by omega), hch, hkc, hbx.keep (by decide) (by decide) hm (Chg.refl NoB _) (fun _ _ x => x)⟩ (Chg.refl _ _) rfl
        · rintro kc m a w5 hkc ⟨hrd, hch, hcc, hbx⟩ hm hn
          obtain ⟨h0, -⟩ := hn
          have e0 : a.tmps[7]?.getD undef = .pointer (some ⟨V, 0, none⟩) := h0
          have y0 := hch.cell v0 (by show ¬ (V = g); omega)
          have y1 := hch.cell v1 (by show ¬ (V = g); omega)
          have y2 := hch.cell v2 (by show ¬ (V = g); omega)
          exact rg_val (v := hval hh) (by simp [execOp, go_sem, e0, y0, y1, y2]) rfl ⟨hrd.more (by omega), hch, hkc, hbx.keep (by decide) (by decide) hm (Chg.refl NoB _) (fun _ _ x => x)⟩ (Chg.refl _ _) rfl
        · rintro kc m a w5 hkc ⟨hrd, hch, hcc, hbx⟩ hm hn
          obtain ⟨h0, -⟩ := hn
          have e0 : a.tmps[0]?.getD undef = .pointer (some ⟨g, 0, none⟩) := h0
          exact rg_val (v := .pointer (some ⟨g, 0, none⟩)) (by simp [execOp, go_sem, e0]) rfl ⟨hrd.more (by omega), hch, hkc, hbx.keep (by decide) (by decide) hm (Chg.refl NoB _) (fun _ _ x => x)⟩ (Chg.refl _ _) rfl
        · rintro kc m a w5 hkc ⟨hrd, hch, hcc, hbx⟩ hm hn
          obtain ⟨⟨_, e0, m0, rfl⟩, -⟩ := hn
          refine rg_call (f := 63) (args := #[.pointer (some ⟨g, 0, none⟩), .int .i64 3]) (by simp [go_sem, e0]) rfl ?_
          refine (pick_any g _ 3 _ hrd (by omega) (by omega) (by omega)).mono ?_
          rintro e' w6 ⟨nn, rfl, hnn, hc6, hr6⟩
          exact ⟨_, rfl, ⟨hr6.more (by omega), hch.trans hc6, hkc, hbx.keep (by decide) (by decide) hm hc6 (fun i hi he => by have := hgW; omega)⟩, (RBox.of hc6 (fun _ x => x)), ⟨nn, rfl, (by omega)⟩⟩
        · rintro kc m a w5 hkc ⟨hrd, hch, hcc, hbx⟩ hm hn
          obtain ⟨h0, -⟩ := hn
          have e0 : a.tmps[0]?.getD undef = .pointer (some ⟨g, 0, none⟩) := h0
          exact rg_val (v := .pointer (some ⟨g, 0, none⟩)) (by simp [execOp, go_sem, e0]) rfl ⟨hrd.more (by omega), hch, hkc, hbx.keep (by decide) (by decide) hm (Chg.refl NoB _) (fun _ _ x => x)⟩ (Chg.refl _ _) rfl
        · rintro kc m a w5 hkc ⟨hrd, hch, hcc, hbx⟩ hm hn
          obtain ⟨h0, -⟩ := hn
          have e0 : a.tmps[8]?.getD undef = .int .i64 (q : Int) := h0
          exact rg_val (v := .int .i64 (q : Int)) (by simp [execOp, go_sem, e0]) rfl ⟨hrd.more (by omega), hch, hkc, hbx.keep (by decide) (by decide) hm (Chg.refl NoB _) (fun _ _ x => x)⟩ (Chg.refl _ _) rfl
        · rintro kc m a w5 hkc ⟨hrd, hch, hcc, hbx⟩ hm hn
          obtain ⟨⟨_, e0, m0, rfl⟩, ⟨_, e1, m1, rfl⟩, -⟩ := hn
          refine rg_call (f := 119) (args := #[.pointer (some ⟨g, 0, none⟩), .int .i64 (q : Int)]) (by simp [go_sem, e0, e1]) rfl ?_
          refine (l20Full_any g _ (q : Int) _ hrd (by omega) ⟨by omega, by omega⟩).mono ?_
          rintro e' w6 ⟨p, rfl, hpf, hpo, hc6, hr6⟩
          exact ⟨_, rfl, ⟨hr6.more (by omega), hch.trans hc6, hkc, hbx.keep (by decide) (by decide) hm hc6 (fun i hi he => by have := hgW; omega)⟩, (RBox.of hc6 (fun _ x => x)), ⟨p, rfl, hpf, hpo⟩⟩
        · rintro kc m a w5 hkc ⟨hrd, hch, hcc, hbx⟩ hm hn
          obtain ⟨⟨_, e0, m0, rfl⟩, ⟨_, e1, m1, rfl⟩, ⟨_, e2, m2, nn, rfl, hnn⟩, ⟨_, e3, m3, p, rfl, hpf, hpo⟩, -⟩ := hn
          refine rg_call (f := 81) (args := #[.slice A D.length c, hval hh, .int .i64 (nn : Int), pval p]) (by simp [go_sem, e0, e1, e2, e3]) rfl ?_
          refine (sAppendPage_any _ A c D hh nn p _ (HRD.out.chg hch (fun i hi he => by have h9 : i = g := he; omega)) HHO.out hnn hpo hpf).mono ?_
          rintro e' w6 ⟨A7, c7, T7, rfl, hT7, hO7, hc6⟩
          obtain ⟨⟨hdv, hho⟩, hlen⟩ := HeadsOk.append HHO.out hnn hpo hpf
          rw [hlen] at hho
          rw [← hT7] at hdv hlen
          have hln : T7.length = D.length := by rw [← bksOf_length]; exact hlen
          exact ⟨_, rfl, ⟨(hrd.chg hc6 (fun _ _ x => x)).more (by omega), hch.trans' hc6 (fun _ x => x.elim), hkc, hbx.keep (by decide) (by decide) hm hc6 (fun _ _ x => x)⟩, (RBox.of hc6 (fun _ x => x.elim)), ⟨A7, c7, T7, _, _, rfl, hdv, hln, (hO7.more hch.size (Nat.le_refl _)), hho⟩⟩
        · rintro kc m a w5 hkc ⟨hrd, hch, hcc, hbx⟩ hm hn
          obtain ⟨⟨_, e0, m0, A7, c7, T7, h7, z7, rfl, hdv, hln, hdq, hho⟩, -⟩ := hn
          exact rg_val (v := .tuple #[.slice A7 D.length c7, hval h7, .int .i64 z7]) (by simp [execOp, go_sem, e0]) rfl ⟨hrd.more (by omega), hch, hkc, hbx.keep (by decide) (by decide) hm (Chg.refl NoB _) (fun _ _ x => x)⟩ (Chg.refl _ _) ⟨A7, c7, T7, h7, z7, rfl, hdv, hln, hdq, hho⟩
        · rintro kc m a w5 hkc ⟨hrd, hch, hcc, hbx⟩ hm hn
          obtain ⟨⟨_, e0, m0, A7, c7, T7, h7, z7, rfl, hdv, hln, hdq, hho⟩, -⟩ := hn
          exact rg_val (v := .slice A7 D.length c7) (by simp [execOp, go_sem, e0]) rfl ⟨hrd.more (by omega), hch, hkc, hbx.keep (by decide) (by decide) hm (Chg.refl NoB _) (fun _ _ x => x)⟩ (Chg.refl _ _) ⟨A7, c7, T7, rfl, hdv, hln, hdq⟩
        · rintro kc m a w5 hkc ⟨hrd, hch, hcc, hbx⟩ hm hn
          obtain ⟨⟨_, e0, m0, A7, c7, T7, h7, z7, rfl, hdv, hln, hdq, hho⟩, -⟩ := hn
          exact rg_val (v := hval h7) (by simp [execOp, go_sem, e0]) rfl ⟨hrd.more (by omega), hch, hkc, hbx.keep (by decide) (by decide) hm (Chg.refl NoB _) (fun _ _ x => x)⟩ (Chg.refl _ _) ⟨h7, rfl, hho⟩
        · rintro kc m a w5 hkc ⟨hrd, hch, hcc, hbx⟩ hm hn
          obtain ⟨⟨_, e0, m0, A7, c7, T7, h7, z7, rfl, hdv, hln, hdq, hho⟩, -⟩ := hn
          exact rg_val (v := .int .i64 z7) (by simp [execOp, go_sem, e0]) rfl ⟨hrd.more (by omega), hch, hkc, hbx.keep (by decide) (by decide) hm (Chg.refl NoB _) (fun _ _ x => x)⟩ (Chg.refl _ _) ⟨z7, rfl⟩
        · rintro kc m a w5 hkc ⟨hrd, hch, hcc, hbx⟩ hm hn
          have hca : Chg NoB w5 (w5.alloc (.cells #[.int .i64 0, .int .i64 0, .int .i64 0] 46)) := (Chg.refl _ _).alloc _
          exact rg_val (v := .pointer (some ⟨w5.heap.size, 0, none⟩)) (w' := w5.alloc (.cells #[.int .i64 0, .int .i64 0, .int .i64 0] 46)) (by simp [execOp, go_sem]) rfl ⟨(hrd.alloc _).more (by omega), hch.alloc _, hkc, hbx.alloc (by decide) hm hch.size⟩ (RBox.of hca (fun _ x => x.elim)) trivial
        · rintro kc m a w5 hkc ⟨hrd, hch, hcc, hbx⟩ hm hn
          obtain ⟨⟨_, e0, m0, A7, c7, T7, rfl, hdv, hln, hdq⟩, -⟩ := hn
          exact rg_val (v := .slice A7 D.length c7) (by simp [execOp, go_sem, e0]) rfl ⟨hrd.more (by omega), hch, hkc, hbx.keep (by decide) (by decide) hm (Chg.refl NoB _) (fun _ _ x => x)⟩ (Chg.refl _ _) ⟨A7, c7, T7, rfl, hdv, hln, hdq⟩
        · rintro kc m a w5 hkc ⟨hrd, hch, hcc, hbx⟩ hm hn
          obtain ⟨⟨p0, e0, m0, _⟩, ⟨_, e1, m1, h7, rfl, hho⟩, -⟩ := hn
          obtain ⟨bx, rfl, hBx, hb⟩ := hbx.ready hm m0
          have f0 := hb.frozen 0
          have x0 : w5.cell? ⟨bx, 0, none⟩ = some (.int .i64 0) := (hb.cell _).trans rfl
          have f1 := hb.frozen 1
          have x1 : w5.cell? ⟨bx, 1, none⟩ = some (.int .i64 0) := (hb.cell _).trans rfl
          have f2 := hb.frozen 2
          have x2 : w5.cell? ⟨bx, 2, none⟩ = some (.int .i64 0) := (hb.cell _).trans rfl
          have hs : Chg (· = bx) w5 (((w5.setCell ⟨bx, 0, none⟩ (.int .i64 h7.hot)).setCell ⟨bx, 1, none⟩ (.int .i64 h7.warm)).setCell ⟨bx, 2, none⟩ (.int .i64 h7.cold)) := ((((Chg.refl (· = bx) w5).setCell (p := ⟨bx, 0, none⟩) (.inl rfl) _).setCell (p := ⟨bx, 1, none⟩) (.inl rfl) _).setCell (p := ⟨bx, 2, none⟩) (.inl rfl) _)
          have hb' : Blk (((w5.setCell ⟨bx, 0, none⟩ (.int .i64 h7.hot)).setCell ⟨bx, 1, none⟩ (.int .i64 h7.warm)).setCell ⟨bx, 2, none⟩ (.int .i64 h7.cold)) bx 46 #[.int .i64 h7.hot, .int .i64 h7.warm, .int .i64 h7.cold] := (((hb.set_ 0 _).set_ 1 _).set_ 2 _)
          exact rg_skip (w' := (((w5.setCell ⟨bx, 0, none⟩ (.int .i64 h7.hot)).setCell ⟨bx, 1, none⟩ (.int .i64 h7.warm)).setCell ⟨bx, 2, none⟩ (.int .i64 h7.cold))) (by simp [execOp, go_sem, e0, e1, x0, x1, x2, f0, f1, f2]) rfl ⟨(hrd.chg hs (fun i hi he => by have := hgW; omega)).more (by omega), hch.own hs hBx, hkc, BoxI.store (by decide) (by decide) m0 hBx m1 hb'⟩ (RBox.box hs hBx hb) trivial
        · rintro kc m a w5 hkc ⟨hrd, hch, hcc, hbx⟩ hm hn
          obtain ⟨⟨_, e0, m0, z7, rfl⟩, -⟩ := hn
          exact rg_val (v := .int .i64 z7) (by simp [execOp, go_sem, e0]) rfl ⟨hrd.more (by omega), hch, hkc, hbx.keep (by decide) (by decide) hm (Chg.refl NoB _) (fun _ _ x => x)⟩ (Chg.refl _ _) ⟨z7, rfl⟩
      rintro m w5 ⟨hrd, hch, -, hbx⟩
      simp only [AllVals]
      rintro q0 m0 p0 q1 m1 p1 q2 m2 p2 q3 m3 p3 q4 m4 p4 q5 m5 p5 q6 m6 p6 q7 m7 p7 q8 m8 p8 q9 m9 p9 q10 m10 p10 q11 m11 p11 q12 m12 p12 q13 m13 p13 q14 m14 p14 q15 m15 p15
      obtain ⟨A7, c7, T7, rfl, hdv, hln, hdq⟩ := p13
      obtain ⟨h7, rfl, hho⟩ := p10
      obtain ⟨z7, rfl⟩ := p15
      obtain ⟨bx, rfl, hBx, hb⟩ := hbx.done m12 m14 m10
      have b0 : w5.cell? ⟨bx, 0, none⟩ = some (.int .i64 h7.hot) := (hb.cell _).trans rfl
      have b1 : w5.cell? ⟨bx, 1, none⟩ = some (.int .i64 h7.warm) := (hb.cell _).trans rfl
      have b2 : w5.cell? ⟨bx, 2, none⟩ = some (.int .i64 h7.cold) := (hb.cell _).trans rfl
      have hv5 := HV.out.chg hch (by show ¬ (V = g); omega)
      have HV5 := Lib.hid hv5
      have HR5 := Lib.hid hrd
      have HQ5 := Lib.hid hdq
      have HCH := Lib.hid hch
      have HHO7 := Lib.hid (show HeadsOk (bksOf T7) h7 from ⟨hdv, by rw [bksOf_length, hln]; exact hho⟩)
      have HLN := Lib.hid hln
      have hnb1 : bx ≠ V := by omega
      have hnb2 : V ≠ bx := by omega
      clear v0 v1 v2 vf0 vf1 vf2
      have v0 : w5.cell? ⟨V, 0, none⟩ = some (.int .i64 hh.hot) := (hv5.cell _).trans rfl
      have vf0 := hv5.frozen 0
      have v1 : w5.cell? ⟨V, 1, none⟩ = some (.int .i64 hh.warm) := (hv5.cell _).trans rfl
      have vf1 := hv5.frozen 1
      have v2 : w5.cell? ⟨V, 2, none⟩ = some (.int .i64 hh.cold) := (hv5.cell _).trans rfl
      have vf2 := hv5.frozen 2
      clear hv5 hrd hdq hch hdv hho hb hbx hBx hln
      clear p0 p1 p2 p3 p4 p5 p6 p7 p8 p9 p11 p12 p14
      simp only [Act.put, List.setIfInBounds_toArray, List.set_cons_succ, List.set_cons_zero]
      go_wp2_with fail
      go_roundw
      case rel =>
        have hcs := chg3h (F := (· = V)) (g := V) (a := .int .i64 h7.hot) (b := .int .i64 h7.warm) (c := .int .i64 h7.cold) (Chg.refl (· = V) w5) (.inl rfl)
        have hsw := HC.out.size
        have hln := HLN.out
        have hvw := HVW.out
        have hss : (((w5.setCell ⟨V, 0, none⟩ (.int .i64 h7.hot)).setCell ⟨V, 1, none⟩ (.int .i64 h7.warm)).setCell ⟨V, 2, none⟩ (.int .i64 h7.cold)).heap.size = w5.heap.size := by simp [World.setCell]
        refine ⟨k - 1, q + 1, M + 4 * 16, c7, A7, T7, h7, bksOf T7, by rw [bksOf_length, hln], by go_num, by go_num, by omega, by omega, by omega, HR5.out.chgBox hcs (by omega) HV5.out (by simp), ((HC.out.trans HCH.out).trans' hcs (fun i hi => .inr (by have h9 : i = V := hi; omega))), (HB.out.chg HCH.out (by omega)).chg hcs (by omega), ((HV5.out.set_ 0 _).set_ 1 _).set_ 2 _, HHO7, Lib.hid rfl, ?_, by rw [bksOf_length, hln]; exact hD2, by rw [bksOf_length, hln]; exact hD5⟩
        have hq := (HQ5.out.chg hcs (fun i h1 h2 h3 => by have h9 : i = V := h3; omega)).more (show w.heap.size + 1 ≤ wr.heap.size by omega) (Nat.le_refl _)
        rw [hss]
        exact hq
      case measure => simp [intOf]; omega
    obtain rfl : k = 0 := by omega
    have hz : ¬ ((0 : Int) < ((0 : Nat) : Int)) := by omega
    clear hbv
    go_wp2_with fail
    refine (pick_any g M 3 _ HR.out (by omega) (by omega) (by omega)).mono ?_
    rintro e w6 ⟨k3, rfl, hk3, hc6, hr6⟩
    have HL := Lib.hid (show T.length = D.length by rw [← HTD.out, bksOf_length])
    have H4 := Lib.hid (ps_four (T := T) (by rw [HTD.out]; exact HHO.out.1))
    have HV6 := Lib.hid (HV.out.chg hc6 (by show ¬ (V = g); omega))
    have HC6 := Lib.hid (HC.out.trans hc6)
    have HB6 := Lib.hid (HB.out.chg hc6 (by show ¬ (w.heap.size = g); omega))
    have HQ6 := Lib.hid ((HQ.out.chg hc6 (fun i h1 h2 h3 => by have h9 : i = g := h3; omega)).more (Nat.le_refl _) hc6.size)
    have HR6 := Lib.hid hr6
    clear hc6 hr6 hz HV HC HB HQ HR HRD HTD HHO
    go_wp2_with fail
    go_loopw [13] (fun i wq => ∃ (k M2 : Nat) (T' : List BkO), i = .int .i64 k ∧ k ≤ 2 ∧ M2 + 10 * k ≤ N + 1800 ∧ Rdr wq g M2 ∧ Chg (· = g) w wq ∧ Blk wq w.heap.size 46 #[.int .i64 0, .int .i64 0, .int .i64 0] ∧ Blk wq V 46 #[.int .i64 hh.hot, .int .i64 hh.warm, .int .i64 hh.cold] ∧ DevQ (w.heap.size + 1) wq.heap.size wq A c T' ∧ Hid (T'.length = D.length) ∧ Hid (∀ r ∈ T', r.ps.length = 4)) (fun i _ => (intOf i).toNat)
    case atStart => exact ⟨k3, M + 1, T, rfl, by omega, by omega, HR6.out, HC6.out, HB6.out, HV6.out, HQ6.out, HL, H4⟩
    case round =>
      obtain ⟨wq, rfl⟩ : ∃ wq, wq = wr := ⟨_, rfl⟩
      obtain ⟨k, M2, T', rfl, hk2, hM2, hr, hch, hb0, hbv, hdq, HTL, HP4⟩ := hrel
      clear HR6 HC6 HB6 HV6 HQ6 HL H4
      have hvw := HVW.out
      have hgq := hr.lt
      have hTl := HTL.out
      obtain ⟨gd, rest, rfl, hgB, hgE, hbg⟩ := hdq.blk (by omega)
      have hgdV : gd ≠ V := fun he => by
        rw [he] at hbg
        exact ty_block_heads (hbg.sameTy hbv)
      have hVgd : V ≠ gd := Ne.symm hgdV
      have hgdw : gd ≠ w.heap.size := by omega
      have hwgd : w.heap.size ≠ gd := by omega
      have HR := Lib.hid hr
      have HC := Lib.hid hch
      have HB := Lib.hid hb0
      have HV := Lib.hid hbv
      have HQ := Lib.hid hdq
      have HBG := Lib.hid hbg
      have HGB := Lib.hid (And.intro hgB hgE)
      clear hch hb0 hbv hdq hbg
      by_cases hk0 : 0 < k
      · have hk1 : (0 : Int) < (k : Int) := by omega
        have hL2 : (2 : Int) ≤ (D.length : Int) := by omega
        have hL5 : (D.length : Int) ≤ 5 := by omega
        go_wp2_with fail
        refine (pick_any g M2 (D.length : Int) _ hr (by omega) (by omega) (by omega)).mono ?_
        rintro e w7 ⟨i, rfl, hi, hc7, hr7⟩
        have HK7 := Lib.hid hc7
        clear hc7 hr
        go_wp2_with fail
        refine (pick_any g _ 12 _ hr7 (by omega) (by omega) (by omega)).mono ?_
        rintro e w8 ⟨j, rfl, hj, hc8, hr8⟩
        have HK8 := Lib.hid (HK7.out.trans hc8)
        clear hc8 hr7
        go_wp2_with fail
        have hcl := (Chg.refl NoB w8).alloc (.cells #[.int .i64 j, .int .i64 100] 3)
        have hlb := Blk.new w8 3 #[.int .i64 j, .int .i64 100]
        refine (pick_any g _ 9 _ (hr8.alloc _) (by omega) (by omega) (by omega)).mono ?_
        rintro e w9 ⟨m, rfl, hm, hc9, hr9⟩
        have hg8 := hr8.lt
        obtain ⟨qq, hqq, hq2⟩ : ∃ qq : Nat, (m : Int) / 8 = (qq : Int) ∧ qq < 2 := ⟨m / 8, by omega, by omega⟩
        have hqq' : (m : Int).tdiv 8 = (qq : Int) := by rw [Int.tdiv_eq_ediv_of_nonneg (by omega)]; exact hqq
        obtain ⟨u, hu⟩ := lit_cell (hlb.chg hc9 (by omega)) qq (by simpa using hq2) (fun v hv => by simp at hv; rcases hv with rfl | rfl <;> exact ⟨_, rfl⟩)
        have hk9 : Chg (· = g) wq w9 := (HK8.out.trans' hcl (fun _ x => x.elim)).trans hc9
        have hm0 : (0 : Int) ≤ (m : Int) := Int.natCast_nonneg _
        have hq20 : (0 : Int) ≤ (qq : Int) := Int.natCast_nonneg _
        have hq21 : (qq : Int) < 2 := by omega
        have hi0 : (0 : Int) ≤ (i : Int) := Int.natCast_nonneg _
        have hiT : i < T'.length := by omega
        have hbg9 := HBG.out.chg hk9 (by show ¬ (gd = g); omega)
        obtain ⟨s0, s1⟩ := DevO.room hbg9 hiT
        have sf0 := hbg9.frozen (i * 2)
        have hq9 := (HQ.out.chg hk9 (fun i h1 h2 h3 => by have h9 : i = g := h3; omega)).more (Nat.le_refl _) hk9.size
        have hset := hq9.setWear hbg9 ⟨hgB, by have := hk9.size; omega⟩ hiT u
        have HSET := Lib.hid hset
        have HK9 := Lib.hid hk9
        have HR9 := Lib.hid hr9
        have HIT := Lib.hid hiT
        have hn8 : w8.heap.size ≠ gd := by have := HK8.out.size; omega
        have hn8' : gd ≠ w8.heap.size := Ne.symm hn8
        clear hcl hlb hc9 hr8 hr9 hk9 hbg9 hq9 hset s1
        go_wp2_with fail
        go_roundw
        case rel =>
          have hcs : Chg (· = gd) w9 (w9.setCell ⟨gd, i * 2, none⟩ (.int .i64 u)) := (Chg.refl (· = gd) w9).setCell (p := ⟨gd, i * 2, none⟩) (.inl rfl) _
          have hss : (w9.setCell ⟨gd, i * 2, none⟩ (.int .i64 u)).heap.size = w9.heap.size := World.size_setCell _ _ _
          refine ⟨k - 1, M2 + 3, T'.set i (setW (T'[i]'HIT.out) u), by go_num, by omega, by omega, HR9.out.chg hcs (fun i hi he => by have h9 : i = gd := he; omega), (HC.out.trans HK9.out).trans' hcs (fun i hi => .inr (by have h9 : i = gd := hi; omega)), (HB.out.chg HK9.out (by show ¬ (w.heap.size = g); omega)).chg hcs (by show ¬ (w.heap.size = gd); omega), (HV.out.chg HK9.out (by show ¬ (V = g); omega)).chg hcs (by show ¬ (V = gd); exact hVgd), ?_, Lib.hid (by rw [List.length_set]; exact hTl), Lib.hid (fun r hr => ?_)⟩
          · rw [hss]; exact HSET.out
          · rcases List.mem_or_eq_of_mem_set hr with h1 | rfl
            · exact HP4.out r h1
            · show (T'[i]'HIT.out).ps.length = 4
              exact HP4.out (T'[i]'HIT.out) (List.getElem_mem HIT.out)
        case measure => simp [intOf]; omega
      obtain rfl : k = 0 := by omega
      have hz : ¬ ((0 : Int) < ((0 : Nat) : Int)) := by omega
      go_wp2_with fail
      refine (odd_any g M2 n _ hr (by omega) hn0 hn).mono ?_
      rintro e w7 ⟨b7, rfl, -, hc7, hr7⟩
      replace HV := Lib.hid (HV.out.chg hc7 (by show ¬ (V = g); omega))
      replace HC := Lib.hid (HC.out.trans hc7)
      replace HB := Lib.hid (HB.out.chg hc7 (by show ¬ (w.heap.size = g); omega))
      replace HQ := Lib.hid ((HQ.out.chg hc7 (fun i h1 h2 h3 => by have h9 : i = g := h3; omega)).more (Nat.le_refl _) hc7.size)
      replace HR := Lib.hid hr7
      have HTB := Lib.hid (show (bksOf T').length = D.length by rw [bksOf_length]; exact hTl)
      have H4B := Lib.hid (mem_bksOf HP4.out)
      clear hr hc7 HBG HGB
      cases b7
      case false =>
        clear hr7
        have hvv := HV.out
        have hrr := HB.out
        have v0 : w7.cell? ⟨V, 0, none⟩ = some (.int .i64 hh.hot) := (hvv.cell _).trans rfl
        have v1 : w7.cell? ⟨V, 1, none⟩ = some (.int .i64 hh.warm) := (hvv.cell _).trans rfl
        have v2 : w7.cell? ⟨V, 2, none⟩ = some (.int .i64 hh.cold) := (hvv.cell _).trans rfl
        have r0 : w7.cell? ⟨w.heap.size, 0, none⟩ = some (.int .i64 0) := (hrr.cell _).trans rfl
        have rf0 := hrr.frozen 0
        have r1 : w7.cell? ⟨w.heap.size, 1, none⟩ = some (.int .i64 0) := (hrr.cell _).trans rfl
        have rf1 := hrr.frozen 1
        have r2 : w7.cell? ⟨w.heap.size, 2, none⟩ = some (.int .i64 0) := (hrr.cell _).trans rfl
        have rf2 := hrr.frozen 2
        clear hvv hrr
        go_wp2_with fail
        go_region
        go_wp2_with fail
        (try simp only [Exit.inBlock, Exit.then])
        refine bodyPost_ret (v := .tuple #[.slice (some ⟨gd, 0, none⟩) D.length c, .agg #[.int .i64 hh.hot, .int .i64 hh.warm, .int .i64 hh.cold]]) (by simp [results, Try.results61, go_sem, *]) rfl ?_
        exact (HEND w7 (some ⟨gd, 0, none⟩) D.length c (bksOf T') hh (M2 + 1) HC HB HR (by omega) (Lib.hid (HQ.out.reads.mono (fun i _ h => h.1))) HTB (by first | exact hlc5 | (have := HQ.out.1.1.1; omega)) (by omega) H4B).out
      go_wp2_with fail
      refine (pick_any g _ 3 _ hr7 (by omega) (by omega) (by omega)).mono ?_
      rintro e w8 ⟨k8, rfl, hk8, hc8, hr8⟩
      replace HV := Lib.hid (HV.out.chg hc8 (by show ¬ (V = g); omega))
      replace HC := Lib.hid (HC.out.trans hc8)
      replace HB := Lib.hid (HB.out.chg hc8 (by show ¬ (w.heap.size = g); omega))
      replace HQ := Lib.hid ((HQ.out.chg hc8 (fun i h1 h2 h3 => by have h9 : i = g := h3; omega)).more (Nat.le_refl _) hc8.size)
      replace HR := Lib.hid hr8
      clear hr7 hc8
      by_cases h0 : k8 = 0
      · subst h0
        go_wp2_with fail
        refine (l20Block_any g _ 1 _ hr8 (by omega) (by omega) (by omega)).mono ?_
        rintro e w9 ⟨b, A9, c9, rfl, hrd9, hlc9, hl49, hc9, hr9⟩
        replace HV := Lib.hid (HV.out.chg hc9 (by show ¬ (V = g); omega))
        replace HC := Lib.hid (HC.out.trans hc9)
        replace HB := Lib.hid (HB.out.chg hc9 (by show ¬ (w.heap.size = g); omega))
        have HQ9 := Lib.hid ((HQ.out.chg hc9 (fun i h1 h2 h3 => by have h9 : i = g := h3; omega)).more (Nat.le_refl _) hc9.size)
        have hca := (Chg.refl NoB w9).alloc (.cells #[.int .i64 b.wear, .slice A9 b.pages.length c9] 67)
        have how := (HQ9.out.new hca).own (by omega)
        rw [hTl] at how
        have HOW := Lib.hid how
        have HRD9 := Lib.hid hrd9
        have HCA := Lib.hid hca
        have HR9 := Lib.hid hr9
        have HS9 := Lib.hid hc9.size
        have hsw := HC.out.size
        have hgdE := (HOW.out.lt gd rfl).2
        have HG8 := Lib.hid (show gd < w8.heap.size by obtain ⟨g', _, e, _, h2, _⟩ := HQ.out.blk (by omega); injection e with e; injection e with e; omega)
        clear hca how hrd9 hr9 hc9 hr8
        go_wp2_with (at_builtin; refine wpList_append_own _ rfl (.tmp 76) (.tmp 79) _ rfl (w.heap.size + 1) 67 i0 (.agg #[.int .i64 0, .slice none 0 0]) 2 32 Try.underlying23 hi hz0 hz1 hz2 rfl (by decide) _ _ _ rfl HOW.out ⟨w9.heap.size, 0, none⟩ 1 1 [.int .i64 b.wear, .slice A9 b.pages.length c9] rfl rfl (cells_new _ _ _) (by simp [Value.oneCell']) (by simp only [maxLen]; omega) (by omega) (by simp; omega) ?_; intro v' w5 hown' hgrow _)
        have hcg := chg_row hgrow
        have hrb : Rd (fun i => w8.heap.size ≤ i) w5 A9 (pgs b.pages) := (HRD9.out.new HCA.out).chg hcg (fun i h1 h2 => by
          have h9 : some i = some gd := h2
          injection h9 with h9
          have := HG8.out; omega)
        have hsz8 := HC.out.size
        obtain ⟨A5, c5, rfl, hlc5, hdr⟩ := devR_snoc hown' (HQ9.out.1.2.grown HCA.out HOW.out hgrow (Nat.le_refl _)) (hrb.mono (fun i _ hi => by have := HG8.out; omega)) hlc9
        have hrr5 := (HR9.out.chg HCA.out (fun _ _ x => x)).grown hgrow (fun j hj => Nat.lt_of_lt_of_le (show g < w.heap.size + 1 by omega) (HOW.out.lt j hj).1)
        replace HV := Lib.hid ((HV.out.chg HCA.out (fun x => x)).chg hcg (fun hh => own_ne_box HOW.out (HV.out.chg HCA.out (fun x => x)) ty_block_heads hh))
        replace HB := Lib.hid ((HB.out.chg HCA.out (fun x => x)).chg hcg (fun hh => own_ne_box HOW.out (HB.out.chg HCA.out (fun x => x)) ty_block_heads hh))
        replace HC := Lib.hid (chg_grown HOW.out hgrow (HC.out.trans' HCA.out (fun _ x => x.elim)) (Nat.le_succ _))
        replace HR := Lib.hid hrr5
        have HDR := Lib.hid hdr
        have H5 := Lib.hid (show ∀ b' ∈ bksOf T' ++ [b], b'.pages.length ≤ 4 from fun b' hb' => by
          rcases List.mem_append.1 hb' with h1 | h1
          · exact H4B.out b' h1
          · simp at h1; subst h1; exact hl49)
        have HL5 := Lib.hid (show (bksOf T' ++ [b]).length = D.length + 1 by rw [List.length_append, HTB.out]; rfl)
        clear hdr hrr5 hrb hcg hown' hgrow
        have hvv := HV.out
        have hrr := HB.out
        have v0 : w5.cell? ⟨V, 0, none⟩ = some (.int .i64 hh.hot) := (hvv.cell _).trans rfl
        have v1 : w5.cell? ⟨V, 1, none⟩ = some (.int .i64 hh.warm) := (hvv.cell _).trans rfl
        have v2 : w5.cell? ⟨V, 2, none⟩ = some (.int .i64 hh.cold) := (hvv.cell _).trans rfl
        have r0 : w5.cell? ⟨w.heap.size, 0, none⟩ = some (.int .i64 0) := (hrr.cell _).trans rfl
        have rf0 := hrr.frozen 0
        have r1 : w5.cell? ⟨w.heap.size, 1, none⟩ = some (.int .i64 0) := (hrr.cell _).trans rfl
        have rf1 := hrr.frozen 1
        have r2 : w5.cell? ⟨w.heap.size, 2, none⟩ = some (.int .i64 0) := (hrr.cell _).trans rfl
        have rf2 := hrr.frozen 2
        clear hvv hrr
        go_wp2_with fail
        go_region
        go_wp2_with fail
        (try simp only [Exit.inBlock, Exit.then])
        refine bodyPost_ret (v := .tuple #[.slice A5 (D.length + 1) c5, .agg #[.int .i64 hh.hot, .int .i64 hh.warm, .int .i64 hh.cold]]) (by simp [results, Try.results61, go_sem, *]) rfl ?_
        exact (HEND w5 A5 (D.length + 1) c5 (bksOf T' ++ [b]) hh _ HC HB HR (by omega) HDR HL5 (by first | exact hlc5 | (have := HQ.out.1.1.1; omega)) (by omega) H5).out
      have h0' : ((k8 : Int) == 0) = false := beq_eq_false_iff_ne.2 (by omega)
      by_cases h1 : k8 = 1
      · subst h1
        have hca := (Chg.refl NoB w8).alloc (.cells #[] 67)
        replace HV := Lib.hid (HV.out.chg hca (fun x => x))
        replace HB := Lib.hid (HB.out.chg hca (fun x => x))
        replace HC := Lib.hid (HC.out.trans' hca (fun _ x => x.elim))
        replace HR := Lib.hid (HR.out.chg hca (fun _ _ x => x))
        have hvv := HV.out
        have hrr := HB.out
        have v0 : (w8.alloc (.cells #[] 67)).cell? ⟨V, 0, none⟩ = some (.int .i64 hh.hot) := (hvv.cell _).trans rfl
        have v1 : (w8.alloc (.cells #[] 67)).cell? ⟨V, 1, none⟩ = some (.int .i64 hh.warm) := (hvv.cell _).trans rfl
        have v2 : (w8.alloc (.cells #[] 67)).cell? ⟨V, 2, none⟩ = some (.int .i64 hh.cold) := (hvv.cell _).trans rfl
        have r0 : (w8.alloc (.cells #[] 67)).cell? ⟨w.heap.size, 0, none⟩ = some (.int .i64 0) := (hrr.cell _).trans rfl
        have rf0 := hrr.frozen 0
        have r1 : (w8.alloc (.cells #[] 67)).cell? ⟨w.heap.size, 1, none⟩ = some (.int .i64 0) := (hrr.cell _).trans rfl
        have rf1 := hrr.frozen 1
        have r2 : (w8.alloc (.cells #[] 67)).cell? ⟨w.heap.size, 2, none⟩ = some (.int .i64 0) := (hrr.cell _).trans rfl
        have rf2 := hrr.frozen 2
        clear hvv hrr hca hr8
        go_wp2_with fail
        go_region
        go_wp2_with fail
        (try simp only [Exit.inBlock, Exit.then])
        refine bodyPost_ret (v := .tuple #[.slice (some ⟨w8.heap.size, 0, none⟩) 0 0, .agg #[.int .i64 hh.hot, .int .i64 hh.warm, .int .i64 hh.cold]]) (by simp [results, Try.results61, go_sem, *]) rfl ?_
        exact (HEND _ (some ⟨w8.heap.size, 0, none⟩) 0 0 [] hh _ HC HB HR (by omega) (Lib.hid (DevR.nil _ _ _)) (Lib.hid rfl) (by omega) (by omega) (Lib.hid (by simp))).out
      have h1' : ((k8 : Int) == 1) = false := beq_eq_false_iff_ne.2 (by omega)
      have HR8 := HR
      have HSZ8 := Lib.hid HC.out.size
      clear hr8 h0 h1
      go_wp2_with fail
      go_loopw [6] (fun v wz => ∃ (A : Option Addr) (c : Nat) (T : List BkO), v = .slice A T.length c ∧ 2 ≤ T.length ∧ T.length ≤ 13 ∧ Rdr wz g (M2 + 1 + 1) ∧ Chg (· = g) w wz ∧ Blk wz w.heap.size 46 #[.int .i64 0, .int .i64 0, .int .i64 0] ∧ Blk wz V 46 #[.int .i64 hh.hot, .int .i64 hh.warm, .int .i64 hh.cold] ∧ DevQ (w.heap.size + 1) wz.heap.size wz A c T ∧ Hid (∀ r ∈ T, r.ps.length = 4)) (fun v _ => 13 - slLen v)
      case atStart => exact ⟨_, c, T', by rw [hTl], by omega, by omega, HR.out, HC.out, HB.out, HV.out, HQ.out, HP4⟩
      case round =>
        obtain ⟨wz, rfl⟩ : ∃ wz, wz = wr := ⟨_, rfl⟩
        obtain ⟨Az, cz, Tz, rfl, ht2, ht13, hr, hch, hb0, hbv, hdq, HP⟩ := hrel
        replace HV := Lib.hid hbv
        replace HB := Lib.hid hb0
        replace HC := Lib.hid hch
        replace HR := Lib.hid hr
        replace HQ := Lib.hid hdq
        have hsw := hch.size
        clear hr hch hb0 hbv hdq HTB H4B HR8 HSZ8 HP4
        by_cases hlt : Tz.length ≤ 12
        · have hlt' : (Tz.length : Int) ≤ 12 := by omega
          go_wp2_with fail
          refine (sNewBlock_any 0 _ (by omega)).mono ?_
          rintro e w9 ⟨g1, c1, rest1, rfl, h41, hok1, hc9⟩
          have hca := (Chg.refl NoB w9).alloc (.cells #[.int .i64 0, .slice (some ⟨g1, 0, none⟩) 4 c1] 67)
          have HQ9 := Lib.hid (HQ.out.new hc9)
          have HOW := Lib.hid ((HQ.out.new (hc9.trans hca)).own (by omega))
          have HOK := Lib.hid hok1
          have HCA := Lib.hid hca
          have HCC := Lib.hid (hc9.trans hca)
          have hs9 := hc9.size
          clear hca hc9 hok1
          go_wp2_with (at_builtin; refine wpList_append_own _ rfl (.tmp 70) (.tmp 72) _ rfl (w.heap.size + 1) 67 i0 (.agg #[.int .i64 0, .slice none 0 0]) 2 32 Try.underlying23 hi hz0 hz1 hz2 rfl (by decide) _ _ _ rfl HOW.out ⟨w9.heap.size, 0, none⟩ 1 1 [.int .i64 0, .slice (some ⟨g1, 0, none⟩) 4 c1] rfl rfl (cells_new _ _ _) (by simp [Value.oneCell']) (by simp only [maxLen]; omega) (by omega) (by simp; omega) ?_; intro v' w5 hown' hgrow _)
          have hcg := chg_row hgrow
          obtain ⟨A5, c5, rfl, hdq5⟩ := DevQ.of_row (T := Tz ++ [⟨g1, c1, 0, List.replicate 4 zPg, rest1⟩]) (by rw [bcells_snoc]; exact hown') (by rw [List.length_append]; rfl) ((HQ9.out.1.2.more (Nat.le_refl _) (Nat.le_refl _)).snoc (HOK.out.more (show w.heap.size + 1 ≤ wz.heap.size by obtain ⟨g', _, e, h1, h2, _⟩ := HQ.out.blk (by omega); omega) (Nat.le_refl _)) HOK.out.1 |>.grown HCA.out HOW.out hgrow (Nat.le_refl _))
          go_roundw
          case rel =>
            refine ⟨A5, c5, Tz ++ [⟨g1, c1, 0, List.replicate 4 zPg, rest1⟩], by rw [List.length_append]; rfl, by rw [List.length_append]; omega, by rw [List.length_append]; simp; omega, (HR.out.chg HCC.out (fun _ _ x => x)).grown hgrow (fun j hj => Nat.lt_of_lt_of_le (show g < w.heap.size + 1 by omega) (HOW.out.lt j hj).1), chg_grown HOW.out hgrow (HC.out.trans' HCC.out (fun _ x => x.elim)) (Nat.le_succ _), (HB.out.chg HCC.out (fun x => x)).chg hcg (fun hh => own_ne_box HOW.out (HB.out.chg HCC.out (fun x => x)) ty_block_heads hh), (HV.out.chg HCC.out (fun x => x)).chg hcg (fun hh => own_ne_box HOW.out (HV.out.chg HCC.out (fun x => x)) ty_block_heads hh), hdq5, Lib.hid (fun r hr => ?_)⟩
            rcases List.mem_append.1 hr with h1 | h1
            · exact HP.out r h1
            · simp at h1; subst h1; rfl
          case measure => simp [slLen]; omega
        · have hlt' : ¬ ((Tz.length : Int) ≤ 12) := by omega
          have HTB := Lib.hid (show (bksOf Tz).length = Tz.length by rw [bksOf_length])
          have H4B := Lib.hid (mem_bksOf HP.out)
          have hvv := HV.out
          have hrr := HB.out
          have v0 : wz.cell? ⟨V, 0, none⟩ = some (.int .i64 hh.hot) := (hvv.cell _).trans rfl
          have v1 : wz.cell? ⟨V, 1, none⟩ = some (.int .i64 hh.warm) := (hvv.cell _).trans rfl
          have v2 : wz.cell? ⟨V, 2, none⟩ = some (.int .i64 hh.cold) := (hvv.cell _).trans rfl
          have r0 : wz.cell? ⟨w.heap.size, 0, none⟩ = some (.int .i64 0) := (hrr.cell _).trans rfl
          have rf0 := hrr.frozen 0
          have r1 : wz.cell? ⟨w.heap.size, 1, none⟩ = some (.int .i64 0) := (hrr.cell _).trans rfl
          have rf1 := hrr.frozen 1
          have r2 : wz.cell? ⟨w.heap.size, 2, none⟩ = some (.int .i64 0) := (hrr.cell _).trans rfl
          have rf2 := hrr.frozen 2
          clear hvv hrr
          go_wp2_with fail
          go_region
          go_wp2_with fail
          (try simp only [Exit.inBlock, Exit.then])
          refine bodyPost_ret (v := .tuple #[.slice Az Tz.length cz, .agg #[.int .i64 hh.hot, .int .i64 hh.warm, .int .i64 hh.cold]]) (by simp [results, Try.results61, go_sem, *]) rfl ?_
          exact (HEND wz Az Tz.length cz (bksOf Tz) hh _ HC HB HR (by omega) (Lib.hid (HQ.out.reads.mono (fun i _ h => h.1))) HTB (by first | exact hlc5 | (have := HQ.out.1.1.1; omega)) (by omega) H4B).out
end Go.Proofs.Ytpiojofmflfkkaa
/- DrawWearTotal; the law FnWearTotal: the walk. -/
namespace Go.Proofs.Ytpiojofmflfkkaa
open Go.RowKit
theorem small13 {D : List Bk} (h : D.length ≤ 13) (h4 : ∀ b ∈ D, b.pages.length ≤ 4) : Small D := ⟨by omega, fun k hk => by have := h4 _ (List.getElem_mem hk); omega⟩
end Go.Proofs.Ytpiojofmflfkkaa
/- The draw of a device and of heads; DrawWearVictim. -/
namespace Go.Proofs.Ytpiojofmflfkkaa
open Go.RowKit
set_option maxRecDepth 100000 in
set_option maxHeartbeats 4000000 in
theorem l20Heads_any (g N : Nat) (n : Int) (w : World) (h : Rdr w g N) (hN : N ≤ 10000) (hn0 : 0 ≤ n) (hn : n ≤ 1000000) :
    Calls Try.prog 148 #[.pointer (some ⟨g, 0, none⟩), .int .i64 n] w (DHDrawn g (N + 4100) w) := by
  have hg := h.lt
  have hca := (Chg.refl NoB w).alloc (.cells #[.int .i64 0, .int .i64 0, .int .i64 0] 46)
  have HB0 := Lib.hid (Blk.new w 46 #[.int .i64 0, .int .i64 0, .int .i64 0])
  have HC0 := Lib.hid (hca.mono (G := (· = g)) (fun _ _ x => x.elim))
  have hr0 := h.alloc (.cells #[.int .i64 0, .int .i64 0, .int .i64 0] 46)
  have HSZ0 := Lib.hid (show (w.alloc (.cells #[.int .i64 0, .int .i64 0, .int .i64 0] 46)).heap.size = w.heap.size + 1 by rw [World.size_alloc])
  clear hca h
  have HEND : ∀ wq A c D (hh : Hd) M B, Hid (Chg (· = g) w wq) → Hid (Blk wq w.heap.size 46 #[.int .i64 0, .int .i64 0, .int .i64 0]) → Hid (Rdr wq g M) → M ≤ N + 4100 → Hid (DevR (fun i => w.heap.size + 1 ≤ i ∧ i < B) wq A D) → D.length ≤ c → D.length ≤ 13 → Hid (∀ b ∈ D, b.pages.length ≤ 4) →
      Hid (DHDrawn g (N + 4100) w (.returned (.tuple #[.slice A D.length c, hval hh])) (((wq.setCell ⟨w.heap.size, 0, none⟩ (.int .i64 hh.hot)).setCell ⟨w.heap.size, 1, none⟩ (.int .i64 hh.warm)).setCell ⟨w.heap.size, 2, none⟩ (.int .i64 hh.cold)).drew) := by
    intro wq A c D hh M B h1 h2 h3 hM hrd hlc h13 h4
    have hcs := chg3h (F := (· = w.heap.size)) (g := w.heap.size) (a := .int .i64 hh.hot) (b := .int .i64 hh.warm) (c := .int .i64 hh.cold) (Chg.refl (· = w.heap.size) wq) (.inl rfl)
    exact Lib.hid ⟨A, c, D, hh, rfl, ((hrd.out.chg hcs (fun i hi he => by have h9 : i = w.heap.size := he; omega)).mono (fun i _ hi => by omega)).new (Chg.refl NoB _).drew, hlc, h13, h4.out, (h1.out.trans' hcs (fun i hi => .inr (by rw [show i = w.heap.size from hi]; exact Nat.le_refl _))).drew, ((h3.out.chgBox hcs (by omega) h2.out (by simp)).more hM).drew⟩
  go_enter Try.func148, Try.ntmps148
  go_wp2_with fail
  refine (l20Device_any g N n _ hr0 hN hn0 hn).mono ?_
  rintro e w1 ⟨A, c, D, hh, rfl, hrd, hlc, h13, h4, hc1, hr1⟩
  have hca := (Chg.refl NoB w1).alloc (.cells #[.int .i64 hh.hot, .int .i64 hh.warm, .int .i64 hh.cold] 46)
  have hv := Blk.new w1 46 #[.int .i64 hh.hot, .int .i64 hh.warm, .int .i64 hh.cold]
  have hc2 := (HC0.out.trans hc1).trans' hca (fun _ x => x.elim)
  have hb2 := (HB0.out.chg hc1 (by omega)).chg hca (fun x => x)
  have hr2 := hr1.alloc (.cells #[.int .i64 hh.hot, .int .i64 hh.warm, .int .i64 hh.cold] 46)
  have hd2 := hrd.lt.new hca
  have hVW : w.heap.size < w1.heap.size := by have := hc1.size; have := HSZ0.out; omega
  have hsz0 := HSZ0.out
  rw [hsz0] at hd2
  go_wp2_with fail
  obtain ⟨V, hV⟩ : ∃ V, w1.heap.size = V := ⟨_, rfl⟩
  obtain ⟨w2, hw2⟩ : ∃ w2, w1.alloc (.cells #[.int .i64 hh.hot, .int .i64 hh.warm, .int .i64 hh.cold] 46) = w2 := ⟨_, rfl⟩
  rw [hw2] at hv hc2 hb2 hr2 hd2 ⊢
  rw [hV] at hv hVW hd2 ⊢
  have H4 := Lib.hid h4
  clear hca hc1 hr1 hrd hsz0 hV hw2 h4 HC0 HB0 HSZ0 hr0
  refine (odd_any g _ n _ hr2 (by omega) hn0 hn).mono ?_
  rintro e w3 ⟨b3, rfl, -, hc3, hr3⟩
  have HV := Lib.hid (hv.chg hc3 (by omega))
  have HC := Lib.hid (hc2.trans hc3)
  have HB := Lib.hid (hb2.chg hc3 (by omega))
  have HR := Lib.hid hr3
  have HD := Lib.hid (hd2.chg hc3 (fun i hi he => by have h9 : i = g := he; omega))
  have hgW := hr3.lt
  have hRW := HB.out.lt
  have hVw1 : w.heap.size ≠ V := by omega
  have hVw2 : V ≠ w.heap.size := by omega
  clear hv hc2 hb2 hr2 hd2 hc3
  cases b3
  case false =>
    go_wp2_with fail
    refine (pick_any g _ 4 _ hr3 (by omega) (by omega) (by omega)).mono ?_
    rintro e w4 ⟨k4, rfl, hk4, hc4, hr4⟩
    replace HV := Lib.hid (HV.out.chg hc4 (by show ¬ (V = g); omega))
    replace HC := Lib.hid (HC.out.trans hc4)
    replace HB := Lib.hid (HB.out.chg hc4 (by show ¬ (w.heap.size = g); omega))
    replace HR := Lib.hid hr4
    replace HD := Lib.hid (HD.out.chg hc4 (fun i hi he => by have h9 : i = g := he; omega))
    have hvv := HV.out
    have hrr := HB.out
    have v0 : w4.cell? ⟨V, 0, none⟩ = some (.int .i64 hh.hot) := (hvv.cell _).trans rfl
    have vf0 := hvv.frozen 0
    have v1 : w4.cell? ⟨V, 1, none⟩ = some (.int .i64 hh.warm) := (hvv.cell _).trans rfl
    have vf1 := hvv.frozen 1
    have v2 : w4.cell? ⟨V, 2, none⟩ = some (.int .i64 hh.cold) := (hvv.cell _).trans rfl
    have vf2 := hvv.frozen 2
    have r0 : w4.cell? ⟨w.heap.size, 0, none⟩ = some (.int .i64 0) := (hrr.cell _).trans rfl
    have rf0 := hrr.frozen 0
    have r1 : w4.cell? ⟨w.heap.size, 1, none⟩ = some (.int .i64 0) := (hrr.cell _).trans rfl
    have rf1 := hrr.frozen 1
    have r2 : w4.cell? ⟨w.heap.size, 2, none⟩ = some (.int .i64 0) := (hrr.cell _).trans rfl
    have rf2 := hrr.frozen 2
    clear hvv hrr hc4 hr4 hr3
    by_cases hk : k4 = 0
    · subst hk
      have hcv := chg3h (F := (· = V)) (g := V) (a := .int .i64 (-1)) (b := .int .i64 (-1)) (c := .int .i64 (-1)) (Chg.refl (· = V) w4) (.inl rfl)
      have hvb : Blk (((w4.setCell ⟨V, 0, none⟩ (.int .i64 (-1))).setCell ⟨V, 1, none⟩ (.int .i64 (-1))).setCell ⟨V, 2, none⟩ (.int .i64 (-1))) V 46 #[.int .i64 (-1), .int .i64 (-1), .int .i64 (-1)] := ((HV.out.set_ 0 _).set_ 1 _).set_ 2 _
      have HCV := Lib.hid hcv
      have HVB := Lib.hid hvb
      clear hcv hvb
      go_wp2_with fail
      obtain ⟨wz, hwz⟩ : ∃ wz, (((w4.setCell ⟨V, 0, none⟩ (.int .i64 (-1))).setCell ⟨V, 1, none⟩ (.int .i64 (-1))).setCell ⟨V, 2, none⟩ (.int .i64 (-1))) = wz := ⟨_, rfl⟩
      have hcv := HCV.out
      have hvb := HVB.out
      rw [hwz] at hcv hvb ⊢
      clear HCV HVB hwz v0 v1 v2 vf0 vf1 vf2 r0 r1 r2 rf0 rf1 rf2
      have HRz := Lib.hid (HR.out.chgBox hcv (by omega) HV.out (by simp))
      have HCz := Lib.hid (HC.out.trans' hcv (fun i hi => .inr (by have h9 : i = V := hi; omega)))
      have hrr := HB.out.chg hcv (by show ¬ (w.heap.size = V); omega)
      have HBz := Lib.hid hrr
      have HDz := Lib.hid (HD.out.chg hcv (fun i hi he => by have h9 : i = V := he; have := hi.2; omega))
      have v0 : wz.cell? ⟨V, 0, none⟩ = some (.int .i64 (-1)) := (hvb.cell _).trans rfl
      have v1 : wz.cell? ⟨V, 1, none⟩ = some (.int .i64 (-1)) := (hvb.cell _).trans rfl
      have v2 : wz.cell? ⟨V, 2, none⟩ = some (.int .i64 (-1)) := (hvb.cell _).trans rfl
      have r0 : wz.cell? ⟨w.heap.size, 0, none⟩ = some (.int .i64 0) := (hrr.cell _).trans rfl
      have rf0 := hrr.frozen 0
      have r1 : wz.cell? ⟨w.heap.size, 1, none⟩ = some (.int .i64 0) := (hrr.cell _).trans rfl
      have rf1 := hrr.frozen 1
      have r2 : wz.cell? ⟨w.heap.size, 2, none⟩ = some (.int .i64 0) := (hrr.cell _).trans rfl
      have rf2 := hrr.frozen 2
      clear hvb hrr hcv
      go_wp2_with fail
      go_region
      go_wp2_with fail
      (try simp only [Exit.inBlock, Exit.then])
      refine bodyPost_ret (v := .tuple #[.slice A D.length c, .agg #[.int .i64 (-1), .int .i64 (-1), .int .i64 (-1)]]) (by simp [results, Try.results148, go_sem, *]) rfl ?_
      exact (HEND wz A c D ⟨-1, -1, -1⟩ _ V HCz HBz HRz (by omega) HDz hlc h13 H4).out
    have hkne : ((k4 : Int) == 0) = false := beq_eq_false_iff_ne.2 (by omega)
    clear vf0 vf1 vf2
    go_wp2_with fail
    go_region
    go_wp2_with fail
    (try simp only [Exit.inBlock, Exit.then])
    refine bodyPost_ret (v := .tuple #[.slice A D.length c, .agg #[.int .i64 hh.hot, .int .i64 hh.warm, .int .i64 hh.cold]]) (by simp [results, Try.results148, go_sem, *]) rfl ?_
    exact (HEND w4 A c D hh _ V HC HB HR (by omega) HD hlc h13 H4).out
  go_wp2_with fail
  have hgR : g ≠ w.heap.size := by omega
  refine wp_region_rg (WInv := fun cc m w5 => Rdr w5 g ((N + 4000 + 1) + 1 * cc) ∧ Chg (fun k => k = g ∨ k = w.heap.size) w3 w5 ∧ cc ≤ 13 ∧ StI w.heap.size 46 #[.int .i64 0, .int .i64 0, .int .i64 0] 12 10 m w5) (R := Chg (fun k => k = g ∨ k = w.heap.size)) (Post := PL [fun v w => v = .slice A D.length c, fun v w => v = .agg #[.int .i64 1, .int .i64 1, .int .i64 (-1)], fun v w => v = .slice A D.length c, fun v w => v = .int .i64 (D.length : Int), fun v w => v = .agg #[.int .i64 (D.length : Int), .int .i64 (-1), .int .i64 (-1)], fun v w => v = .agg #[.int .i64 (-2), .int .i64 (-1), .int .i64 (-1)], fun v w => ∃ b : Nat, v = .slice (some ⟨b, 0, none⟩) 3 3 ∧ w3.heap.size ≤ b ∧ Blk w b 46 #[.int .i64 1, .int .i64 1, .int .i64 (-1), .int .i64 (D.length : Int), .int .i64 (-1), .int .i64 (-1), .int .i64 (-2), .int .i64 (-1), .int .i64 (-1)], fun v w => v = .pointer (some ⟨g, 0, none⟩), fun v w => ∃ k : Nat, v = .int .i64 (k : Int) ∧ k < 3, fun v w => ∃ b : Nat, ∃ k : Nat, v = .pointer (some ⟨b, k * 3, none⟩) ∧ w3.heap.size ≤ b ∧ Blk w b 46 #[.int .i64 1, .int .i64 1, .int .i64 (-1), .int .i64 (D.length : Int), .int .i64 (-1), .int .i64 (-1), .int .i64 (-2), .int .i64 (-1), .int .i64 (-1)] ∧ k < 3, fun v w => ∃ a1 : Int, ∃ a2 : Int, ∃ a3 : Int, v = .agg #[.int .i64 a1, .int .i64 a2, .int .i64 a3], fun v w => v = .slice A D.length c, fun _ _ => True]) (by kernel_rfl) (by kernel_rfl) ?_ (pl_stab ⟨(fun _ _ _ h _ => h), (fun _ _ _ h _ => h), (fun _ _ _ h _ => h), (fun _ _ _ h _ => h), (fun _ _ _ h _ => h), (fun _ _ _ h _ => h), (fun _ _ _ ⟨b, hv, hbB, hbl⟩ hR => ⟨b, hv, hbB, (hbl.chg hR (by show ¬ (b = g ∨ b = w.heap.size); omega))⟩), (fun _ _ _ h _ => h), (fun _ _ _ h _ => h), (fun _ _ _ ⟨b, k, hv, hbB, hbl, hk⟩ hR => ⟨b, k, hv, hbB, (hbl.chg hR (by show ¬ (b = g ∨ b = w.heap.size); omega)), hk⟩), (fun _ _ _ h _ => h), (fun _ _ _ h _ => h), (fun _ _ _ _ _ => trivial), trivial⟩) ⟨(HR.out.drew).more (by omega), (Chg.refl _ _).drew, Nat.zero_le _, .inl ⟨rfl, HB.out.chg (Chg.refl NoB w3).drew (fun x => x)⟩⟩ ?_ ?_
  · rintro c c' m w ⟨h1, h2, _, h5⟩ h3 h4
    exact ⟨h1.more (by omega), h2, h4, h5⟩
  · refine ⟨?_, ?_, ?_, ?_, ?_, ?_, ?_, ?_, ?_, ?_, ?_, ?_, ?_, trivial⟩
    · rintro kc m a w5 hkc ⟨hrd, hch, hcc, hst⟩ hm hn
      obtain ⟨h0, -⟩ := hn
      have e0 : a.tmps[6]?.getD undef = .slice A D.length c := h0
      exact rg_val (v := .slice A D.length c) (by simp [execOp, go_sem, e0]) rfl ⟨hrd.more (by omega), hch, hkc, hst.keep (by decide) hm (Chg.refl NoB _) (fun x => x)⟩ (Chg.refl _ _) rfl
    · rintro kc m a w5 hkc ⟨hrd, hch, hcc, hst⟩ hm hn
      exact rg_val (v := .agg #[.int .i64 1, .int .i64 1, .int .i64 (-1)]) (by simp [execOp, go_sem]) rfl ⟨hrd.more (by omega), hch, hkc, hst.keep (by decide) hm (Chg.refl NoB _) (fun x => x)⟩ (Chg.refl _ _) rfl
    · rintro kc m a w5 hkc ⟨hrd, hch, hcc, hst⟩ hm hn
      obtain ⟨h0, -⟩ := hn
      have e0 : a.tmps[6]?.getD undef = .slice A D.length c := h0
      exact rg_val (v := .slice A D.length c) (by simp [execOp, go_sem, e0]) rfl ⟨hrd.more (by omega), hch, hkc, hst.keep (by decide) hm (Chg.refl NoB _) (fun x => x)⟩ (Chg.refl _ _) rfl
    · rintro kc m a w5 hkc ⟨hrd, hch, hcc, hst⟩ hm hn
      obtain ⟨⟨_, e0, m0, rfl⟩, -⟩ := hn
      exact rg_val (v := .int .i64 (D.length : Int)) (by simp [go_sem, e0]) rfl ⟨hrd.more (by omega), hch, hkc, hst.keep (by decide) hm (Chg.refl NoB _) (fun x => x)⟩ (Chg.refl _ _) rfl
    · rintro kc m a w5 hkc ⟨hrd, hch, hcc, hst⟩ hm hn
      obtain ⟨⟨_, e0, m0, rfl⟩, -⟩ := hn
      exact rg_val (v := .agg #[.int .i64 (D.length : Int), .int .i64 (-1), .int .i64 (-1)]) (by simp [execOp, go_sem, e0]) rfl ⟨hrd.more (by omega), hch, hkc, hst.keep (by decide) hm (Chg.refl NoB _) (fun x => x)⟩ (Chg.refl _ _) rfl
    · rintro kc m a w5 hkc ⟨hrd, hch, hcc, hst⟩ hm hn
      exact rg_val (v := .agg #[.int .i64 (-2), .int .i64 (-1), .int .i64 (-1)]) (by simp [execOp, go_sem]) rfl ⟨hrd.more (by omega), hch, hkc, hst.keep (by decide) hm (Chg.refl NoB _) (fun x => x)⟩ (Chg.refl _ _) rfl
    · rintro kc m a w5 hkc ⟨hrd, hch, hcc, hst⟩ hm hn
      obtain ⟨⟨_, e0, m0, rfl⟩, ⟨_, e1, m1, rfl⟩, ⟨_, e2, m2, rfl⟩, -⟩ := hn
      have hca : Chg NoB w5 (w5.alloc (.cells #[.int .i64 1, .int .i64 1, .int .i64 (-1), .int .i64 (D.length : Int), .int .i64 (-1), .int .i64 (-1), .int .i64 (-2), .int .i64 (-1), .int .i64 (-1)] 46)) := (Chg.refl _ _).alloc _
      exact rg_val (v := .slice (some ⟨w5.heap.size, 0, none⟩) 3 3) (w' := w5.alloc (.cells #[.int .i64 1, .int .i64 1, .int .i64 (-1), .int .i64 (D.length : Int), .int .i64 (-1), .int .i64 (-1), .int .i64 (-2), .int .i64 (-1), .int .i64 (-1)] 46)) (by simp [execOp, go_sem, e0, e1, e2]) rfl ⟨(hrd.alloc _).more (by omega), hch.alloc _, hkc, hst.keep (by decide) hm hca (fun x => x)⟩ (hca.mono (fun _ _ x => x.elim)) ⟨_, rfl, hch.size, Blk.new _ _ _⟩
    · rintro kc m a w5 hkc ⟨hrd, hch, hcc, hst⟩ hm hn
      obtain ⟨h0, -⟩ := hn
      have e0 : a.tmps[0]?.getD undef = .pointer (some ⟨g, 0, none⟩) := h0
      exact rg_val (v := .pointer (some ⟨g, 0, none⟩)) (by simp [execOp, go_sem, e0]) rfl ⟨hrd.more (by omega), hch, hkc, hst.keep (by decide) hm (Chg.refl NoB _) (fun x => x)⟩ (Chg.refl _ _) rfl
    · rintro kc m a w5 hkc ⟨hrd, hch, hcc, hst⟩ hm hn
      obtain ⟨⟨_, e0, m0, rfl⟩, -⟩ := hn
      refine rg_call (f := 63) (args := #[.pointer (some ⟨g, 0, none⟩), .int .i64 3]) (by simp [go_sem, e0]) rfl ?_
      refine (pick_any g _ 3 _ hrd (by omega) (by omega) (by omega)).mono ?_
      rintro e' w6 ⟨k, rfl, hk, hc6, hr6⟩
      exact ⟨_, rfl, ⟨hr6.more (by omega), hch.trans (hc6.mono (fun _ _ x => .inl x)), hkc, hst.keep (by decide) hm hc6 (by omega)⟩, (hc6.mono (fun _ _ x => .inl x)), ⟨k, rfl, (by omega)⟩⟩
    · rintro kc m a w5 hkc ⟨hrd, hch, hcc, hst⟩ hm hn
      obtain ⟨⟨_, e0, m0, b, rfl, hbB, hbl⟩, ⟨_, e1, m1, k, rfl, hk⟩, -⟩ := hn
      have hk3 : (k : Int) < 3 := by omega
      exact rg_val (v := .pointer (some ⟨b, k * 3, none⟩)) (by simp [execOp, go_sem, e0, e1]; exact fun hh => absurd hh (by omega)) rfl ⟨hrd.more (by omega), hch, hkc, hst.keep (by decide) hm (Chg.refl NoB _) (fun x => x)⟩ (Chg.refl _ _) ⟨b, k, rfl, hbB, hbl, hk⟩
    · rintro kc m a w5 hkc ⟨hrd, hch, hcc, hst⟩ hm hn
      obtain ⟨⟨_, e0, m0, b, k, rfl, hbB, hbl, hk⟩, -⟩ := hn
      obtain ⟨a1, a2, a3, y0, y1, y2⟩ : ∃ a1 a2 a3 : Int, w5.cell? ⟨b, k * 3, none⟩ = some (.int .i64 a1) ∧ w5.cell? ⟨b, k * 3 + 1, none⟩ = some (.int .i64 a2) ∧ w5.cell? ⟨b, k * 3 + 2, none⟩ = some (.int .i64 a3) := by
        rw [hbl.cell, hbl.cell, hbl.cell]
        rcases (show k = 0 ∨ k = 1 ∨ k = 2 by omega) with rfl | rfl | rfl <;> exact ⟨_, _, _, rfl, rfl, rfl⟩
      exact rg_val (v := .agg #[.int .i64 a1, .int .i64 a2, .int .i64 a3]) (by simp [execOp, go_sem, e0, y0, y1, y2]) rfl ⟨hrd.more (by omega), hch, hkc, hst.keep (by decide) hm (Chg.refl NoB _) (fun x => x)⟩ (Chg.refl _ _) ⟨a1, a2, a3, rfl⟩
    · rintro kc m a w5 hkc ⟨hrd, hch, hcc, hst⟩ hm hn
      obtain ⟨⟨_, e0, m0, rfl⟩, -⟩ := hn
      exact rg_val (v := .slice A D.length c) (by simp [execOp, go_sem, e0]) rfl ⟨hrd.more (by omega), hch, hkc, hst.keep (by decide) hm (Chg.refl NoB _) (fun x => x)⟩ (Chg.refl _ _) rfl
    · rintro kc m a w5 hkc ⟨hrd, hch, hcc, hst⟩ hm hn
      obtain ⟨h0, ⟨_, e1, m1, a1, a2, a3, rfl⟩, -⟩ := hn
      have e0 : a.tmps[5]?.getD undef = .pointer (some ⟨w.heap.size, 0, none⟩) := h0
      have hb := hst.ready hm
      have f0 := hb.frozen 0
      have x0 : w5.cell? ⟨w.heap.size, 0, none⟩ = some (.int .i64 0) := (hb.cell _).trans rfl
      have f1 := hb.frozen 1
      have x1 : w5.cell? ⟨w.heap.size, 1, none⟩ = some (.int .i64 0) := (hb.cell _).trans rfl
      have f2 := hb.frozen 2
      have x2 : w5.cell? ⟨w.heap.size, 2, none⟩ = some (.int .i64 0) := (hb.cell _).trans rfl
      have hs : Chg (· = w.heap.size) w5 (((w5.setCell ⟨w.heap.size, 0, none⟩ (.int .i64 a1)).setCell ⟨w.heap.size, 1, none⟩ (.int .i64 a2)).setCell ⟨w.heap.size, 2, none⟩ (.int .i64 a3)) := ((((Chg.refl (· = w.heap.size) w5).setCell (p := ⟨w.heap.size, 0, none⟩) (.inl rfl) _).setCell (p := ⟨w.heap.size, 1, none⟩) (.inl rfl) _).setCell (p := ⟨w.heap.size, 2, none⟩) (.inl rfl) _)
      have hb' : Blk (((w5.setCell ⟨w.heap.size, 0, none⟩ (.int .i64 a1)).setCell ⟨w.heap.size, 1, none⟩ (.int .i64 a2)).setCell ⟨w.heap.size, 2, none⟩ (.int .i64 a3)) w.heap.size 46 #[.int .i64 a1, .int .i64 a2, .int .i64 a3] := (((hb.set_ 0 _).set_ 1 _).set_ 2 _)
      exact rg_skip (w' := (((w5.setCell ⟨w.heap.size, 0, none⟩ (.int .i64 a1)).setCell ⟨w.heap.size, 1, none⟩ (.int .i64 a2)).setCell ⟨w.heap.size, 2, none⟩ (.int .i64 a3))) (by simp [execOp, go_sem, e0, e1, x0, x1, x2, f0, f1, f2]) rfl ⟨(hrd.chg hs (fun i hi he => by have h9 : i = w.heap.size := he; omega)).more (by omega), hch.trans (hs.mono (fun _ _ x => .inr x)), hkc, StI.store (by decide) m1 hb'⟩ (hs.mono (fun _ _ x => .inr x)) trivial
  rintro m w5 ⟨hrd, hch, -, hst⟩
  simp only [AllVals]
  rintro q0 m0 p0 q1 m1 p1 q2 m2 p2 q3 m3 p3 q4 m4 p4 q5 m5 p5 q6 m6 p6 q7 m7 p7 q8 m8 p8 q9 m9 p9 q10 m10 p10 q11 m11 p11 q12 m12 p12
  obtain rfl := p11
  obtain ⟨a1, a2, a3, rfl⟩ := p10
  have hb := hst.done m12 m10
  have HCH := Lib.hid hch
  have HR5 := Lib.hid hrd
  have r0 : w5.cell? ⟨w.heap.size, 0, none⟩ = some (.int .i64 a1) := (hb.cell _).trans rfl
  have r1 : w5.cell? ⟨w.heap.size, 1, none⟩ = some (.int .i64 a2) := (hb.cell _).trans rfl
  have r2 : w5.cell? ⟨w.heap.size, 2, none⟩ = some (.int .i64 a3) := (hb.cell _).trans rfl
  clear hst hb hch hrd
  clear p0 p1 p2 p3 p4 p5 p6 p7 p8 p9 p12
  simp only [Act.put, List.setIfInBounds_toArray, List.set_cons_succ, List.set_cons_zero]
  go_wp2_with fail
  (try simp only [Exit.inBlock, Exit.then])
  refine bodyPost_ret (v := .tuple #[.slice A D.length c, .agg #[.int .i64 a1, .int .i64 a2, .int .i64 a3]]) (by simp [results, Try.results148, go_sem, *]) rfl ?_
  exact ⟨A, c, D, ⟨a1, a2, a3⟩, rfl, (HD.out.chg HCH.out (fun i hi he => by have h9 : i = g ∨ i = w.heap.size := he; have := hi.1; omega)).mono (fun i _ hi => by have := hi.1; omega), hlc, h13, H4.out, HC.out.trans' HCH.out (fun i hi => by have h9 : i = g ∨ i = w.heap.size := hi; rcases h9 with h9 | h9; exact .inl h9; exact .inr (by omega)), HR5.out.more (show N + 4000 + 1 + 1 * 13 ≤ N + 4100 by omega)⟩
end Go.Proofs.Ytpiojofmflfkkaa
