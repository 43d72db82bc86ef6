/- AppendPage of the reference, of a page that is not valid. -/
import Derived.Test.YtpiojofmflfkkaaMc
namespace Go.Proofs.Ytpiojofmflfkkaa
open Go.RowKit
set_option maxRecDepth 100000 in
set_option maxHeartbeats 2000000 in
theorem sAppendPage_bad (F : Nat → Prop) (A : Option Addr) (c : Nat) (D : List Bk) (h : Hd) (n : Nat) (p : Pg) (w : World) (hr : DevR F w A D) (hh : HeadsOk D h) (hn : n < 3) (hp : ¬ PgOk p) :
    Calls Try.prog 81 #[.slice A D.length c, hval h, .int .i64 n, pval p] w fun e w' => ∃ A' c', e = .returned (.tuple #[.slice A' 0 c', hval ⟨0, 0, 0⟩, .int .i64 (-1)]) ∧ Chg NoB w w' := by
  obtain ⟨fu, fi, pl, va, st⟩ := p
  have HHV := Lib.hid (show ∀ wq (Aq : Option Addr) (cq : Nat) (G : Nat → Prop), DevR G wq Aq D → Calls Try.prog 75 #[.slice Aq D.length cq, hval h] wq fun e w' => e = .returned (.bool true) ∧ Chg NoB wq w' from fun wq Aq cq G hq => (sHeadsValid_any G Aq cq D h wq hq hh.1.small).mono fun e w' ⟨he, hw⟩ => ⟨by rw [he, decide_eq_true hh], hw⟩)
  obtain ⟨a1, a2, a3⟩ := h
  obtain ⟨q1, q2, q3⟩ := lit2 w 46 80 #[.int .i64 a1, .int .i64 a2, .int .i64 a3] #[.bool fu, .int .i64 fi, .int .i64 pl, .int .i64 va, .int .i64 st]
  obtain ⟨w2, hw2⟩ : ∃ w2, (w.alloc (.cells #[.int .i64 a1, .int .i64 a2, .int .i64 a3] 46)).alloc (.cells #[.bool fu, .int .i64 fi, .int .i64 pl, .int .i64 va, .int .i64 st] 80) = w2 := ⟨_, rfl⟩
  have hsz2 : w2.heap.size = w.heap.size + 1 + 1 := by rw [← hw2]; simp [World.size_alloc]
  have hca := (Chg.refl NoB w2).alloc (.cells #[.int .i64 0, .int .i64 0, .int .i64 0] 46)
  have q4 := Blk.new w2 46 #[.int .i64 0, .int .i64 0, .int .i64 0]
  rw [hw2] at q1 q2 q3
  obtain ⟨w3, hw3⟩ : ∃ w3, w2.alloc (.cells #[.int .i64 0, .int .i64 0, .int .i64 0] 46) = w3 := ⟨_, rfl⟩
  rw [hw3] at hca q4
  rw [hsz2] at q4
  have HBH := Lib.hid (q1.chg hca (fun x => x))
  have HBP := Lib.hid (q2.chg hca (fun x => x))
  have HBR := Lib.hid q4
  have HC := Lib.hid (q3.trans hca)
  have HR := Lib.hid (hr.lt.new (q3.trans hca))
  have HW2 := Lib.hid hw2
  have HW3 := Lib.hid hw3
  have HP := Lib.hid hp
  have hnn0 : (0 : Int) ≤ (n : Int) := Int.natCast_nonneg _
  have HNL := Lib.hid hn
  clear q1 q2 q3 q4 hr hca hw2 hw3 hsz2 hp hh
  go_enter Try.func81, Try.ntmps81
  go_wp2_with fail
  rw [HW2.out, HW3.out]
  clear HW2 HW3
  refine (HHV.out _ A c _ HR.out).mono ?_
  rintro e w4 ⟨rfl, hc4⟩
  replace HBP := Lib.hid (HBP.out.chg hc4 (fun x => x))
  replace HBR := Lib.hid (HBR.out.chg hc4 (fun x => x))
  replace HC := Lib.hid (HC.out.trans hc4)
  clear hc4 HBH
  have hbp := HBP.out
  have p0 : w4.cell? ⟨(w.heap.size + 1), 0, none⟩ = some (.bool fu) := (hbp.cell _).trans rfl
  have p1 : w4.cell? ⟨(w.heap.size + 1), 1, none⟩ = some (.int .i64 fi) := (hbp.cell _).trans rfl
  have p2 : w4.cell? ⟨(w.heap.size + 1), 2, none⟩ = some (.int .i64 pl) := (hbp.cell _).trans rfl
  have p3 : w4.cell? ⟨(w.heap.size + 1), 3, none⟩ = some (.int .i64 va) := (hbp.cell _).trans rfl
  have p4 : w4.cell? ⟨(w.heap.size + 1), 4, none⟩ = some (.int .i64 st) := (hbp.cell _).trans rfl
  clear hbp
  go_wp2_with fail
  refine (l1In_t (n : Int) 0 2 _ ⟨by omega, by have := HNL.out; omega⟩).mono ?_
  rintro e w' ⟨rfl, rfl⟩
  go_wp2_with fail
  refine (sPageValid_f ⟨fu, fi, pl, va, st⟩ _ HP.out).mono ?_
  rintro e w5 ⟨rfl, hc5⟩
  have HC5 := Lib.hid (HC.out.trans hc5)
  have hca := (Chg.refl NoB w5).alloc (.cells #[] 67)
  have hbr := (HBR.out.chg hc5 (fun x => x)).chg hca (fun x => x)
  have HLT := Lib.hid ((HBR.out.chg hc5 (fun x => x)).lt)
  have r0 : (w5.alloc (.cells #[] 67)).cell? ⟨(w.heap.size + 1 + 1), 0, none⟩ = some (.int .i64 0) := (hbr.cell _).trans rfl
  have rf0 := hbr.frozen 0
  have r1 : (w5.alloc (.cells #[] 67)).cell? ⟨(w.heap.size + 1 + 1), 1, none⟩ = some (.int .i64 0) := (hbr.cell _).trans rfl
  have rf1 := hbr.frozen 1
  have r2 : (w5.alloc (.cells #[] 67)).cell? ⟨(w.heap.size + 1 + 1), 2, none⟩ = some (.int .i64 0) := (hbr.cell _).trans rfl
  have rf2 := hbr.frozen 2
  clear hc5 hca hbr p0 p1 p2 p3 p4
  go_wp2_with fail
  (try simp only [Exit.inBlock, Exit.then])
  refine bodyPost_ret (v := .tuple #[.slice (some ⟨w5.heap.size, 0, none⟩) 0 0, hval ⟨0, 0, 0⟩, .int .i64 (-1)]) (by simp [results, Try.results81, go_sem, *]) rfl ?_
  exact ⟨_, _, rfl, (HC5.out.alloc _).own (chg3h (F := (· = w.heap.size + 1 + 1)) (g := w.heap.size + 1 + 1) (Chg.refl _ _) (.inl rfl)) (by omega)⟩
end Go.Proofs.Ytpiojofmflfkkaa
